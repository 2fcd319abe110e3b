/- The walks of package side (layer 10), fifth part: whether a side may be. -/
import Derived.Test.YtgnfmopcialllaaGreatDoorTk
import Derived.Test.YtgnfmopcialllaaGreatDoorG25
import Derived.OrdersHeld
import Derived.Deep.RegionHeld
set_option linter.unusedSimpArgs false
set_option linter.unusedVariables false
namespace Go.Proofs.YtgnfmopcialllaaGreatDoor
open Go.RowKit
def RLab (x:Sd.Lab) (vs:List Value):Prop:=vs=[.string ⟨x.key.toArray⟩,.string ⟨x.num.toArray⟩,.int .i64 x.page]
def RHd (x:Sd.Hd) (vs:List Value):Prop:=vs=[.int .i64 x.level,.string ⟨x.num.toArray⟩,.string ⟨x.title.toArray⟩,.int .i64 x.page]
theorem RLab.size (x:Sd.Lab) (vs:List Value) (h:RLab x vs):vs.length=3:=by rw [h];rfl
theorem RHd.size (x:Sd.Hd) (vs:List Value) (h:RHd x vs):vs.length=4:=by rw [h];rfl
def SideIn (S:Nat→Prop) (w:World) (v:Value) (x:Sd.Side):Prop :=
 ∃vl vh vc vb,v = .agg #[vl,vh,vc,vb]∧SliceIn S 3 RLab w vl x.labs∧SliceIn S 4 RHd w vh x.heads∧SliceIn S 1 RStr w vc x.cites∧SliceIn S 1 RStr w vb x.bibs
theorem SideIn.below {S:Nat→Prop} {w w':World} {v:Value} {x:Sd.Side} (h:SideIn S w v x) (hb:Below w.heap.size w w'):SideIn S w' v x:=by
 obtain ⟨vl,vh,vc,vb,e,h1,h2,h3,h4⟩:=h
 exact ⟨vl,vh,vc,vb,e,h1.below' hb,h2.below' hb,h3.below' hb,h4.below' hb⟩
structure SideSm (x:Sd.Side):Prop where
 labs:x.labs.length≤1000000
 heads:x.heads.length≤1000000
 cites:x.cites.length≤1000000
 bibs:x.bibs.length≤1000000
 lab:∀l ∈ x.labs,l.key.length≤1000000∧l.num.length≤1000000
 head:∀l ∈ x.heads,l.num.length≤1000000∧l.title.length≤1000000
 cite:∀l ∈ x.cites,l.length≤1000000
 bib:∀l ∈ x.bibs,l.length≤1000000
theorem cut_ok (n:Int) (h:Sd.pageOk n=true):Cnt.cut n=n:=by
 unfold Sd.pageOk at h
 rw [Bool.and_eq_true,decide_eq_true_eq,decide_eq_true_eq] at h
 exact Cnt.cut_of h.1 h.2
theorem cut_bad (n:Int) (h:Sd.pageOk n=false):n≠Cnt.cut n:=by
 intro e
 have h0:=Cnt.cut_lo n
 have h1:=Cnt.cut_hi n
 unfold Sd.pageOk at h
 rw [Bool.and_eq_false_iff,decide_eq_false_iff_not,decide_eq_false_iff_not] at h
 omega
set_option maxRecDepth 100000 in
set_option maxHeartbeats 3200000 in
theorem side_right (x:Sd.Side) (v:Value) (S:Nat→Prop) (w:World) (hX:SideIn S w v x) (hsm:SideSm x) :
  Calls Tryz.prog 55 #[v] w fun e w'=>e = .returned (.bool (Sd.right x))∧Below w.heap.size w w':=by
 obtain ⟨vl,vh,vc,vb,rfl,hLb,hHd,hCt,hBb⟩:=hX
 have hsl:=hsm.labs;have hsh:=hsm.heads;have hsc:=hsm.cites;have hsb:=hsm.bibs
 have Hsm:=η hsm
 clear hsm
 have HCt:=η hCt;have HBb:=η hBb;have HLb:=η hLb;have HHd:=η hHd
 obtain ⟨pc,cc,rfl,hq1⟩:=hCt
 obtain ⟨pb,cb,rfl,hq2⟩:=hBb
 clear hq1 hq2
 obtain ⟨pl,cl,rfl,hll,hlm,hlat⟩:=hLb
 obtain ⟨ph,ch,rfl,hhl,hhm,hhat⟩:=hHd
 have Hlat:=η hlat;have Hhat:=η hhat
 clear hlat hhat hll hlm hhl hhm
 obtain ⟨i0,hi,hz0,hz1,hz2⟩:=info_parts str_info
 have Hi:=η hi;have Hz0:=η hz0;have Hz1:=η hz1;have Hz2:=η hz2;clear hi hz0 hz1 hz2
 have hrt:Sd.right x=(decide (x.labs.length≤100)&&decide (x.heads.length≤100)&&decide (x.cites.length≤100)&&decide (x.bibs.length≤8)&&Sd.keys x.cites&&Sd.keys x.bibs&&x.labs.all Sd.labOk&&x.heads.all Sd.headOk&&Sd.keys (x.labs.map Sd.Lab.key)):=rfl
 have Hrt:=η hrt
 clear hrt
 go_enter Tryz.func55, Tryz.ntmps55
 go_upto_region 1 with fail
 have he6:∀(i:Nat) (u:Value),#[Value.slice pl x.labs.length cl,.slice ph x.heads.length ch,.slice pc x.cites.length cc,.slice pb x.bibs.length cb][i]? = some u→(w.alloc (.cells #[.slice pl x.labs.length cl,.slice ph x.heads.length ch,.slice pc x.cites.length cc,.slice pb x.bibs.length cb] 46)).cell? ⟨w.heap.size,i,none⟩=some u:=by
  intro i u hu
  rw [cell_of_row _ _ _ _ _ _ (heap_alloc_new w _)]
  exact hu
 have hb4:=below_new w (.cells #[.slice pl x.labs.length cl,.slice ph x.heads.length ch,.slice pc x.cites.length cc,.slice pb x.bibs.length cb] 46)
 have hz4:=lt_alloc w (.cells #[.slice pl x.labs.length cl,.slice ph x.heads.length ch,.slice pc x.cites.length cc,.slice pb x.bibs.length cb] 46)
 generalize w.alloc (.cells #[.slice pl x.labs.length cl,.slice ph x.heads.length ch,.slice pc x.cites.length cc,.slice pb x.bibs.length cb] 46)=w4 at he6 hb4 hz4 ⊢
 have e60:=he6 0 _ rfl;have e61:=he6 1 _ rfl;have e62:=he6 2 _ rfl;have e63:=he6 3 _ rfl
 have Hb4:=η hb4
 clear he6 hb4
 obtain ⟨kc,hkc⟩:∃kc,Sd.keys x.cites=kc:=⟨_,rfl⟩
 obtain ⟨kb,hkb⟩:∃kb,Sd.keys x.bibs=kb:=⟨_,rfl⟩
 have Hkc:=η hkc;have Hkb:=η hkb
 rw [hkc,hkb] at Hrt
 clear hkc hkb
 go_cut [41] (fun v wx=>v = .bool (!(decide (x.labs.length≤100)&&decide (x.heads.length≤100)&&decide (x.cites.length≤100)&&decide (x.bibs.length≤8)&&kc&&kb))∧Below w4.heap.size w4 wx)
 case first =>
  have hc3:∀l ∈ x.cites,l.length≤1000000:=fun l hl=>Hsm.out.cite l hl
  have hb3:∀l ∈ x.bibs,l.length≤1000000:=fun l hl=>Hsm.out.bib l hl
  have Hc3:=η hc3;have Hb3:=η hb3
  clear hc3 hb3
  by_cases h1:x.labs.length≤100
  ·
   have g1:¬(100:Int)<(x.labs.length:Int):=by omega
   have d1:=η (decide_eq_true h1);clear h1
   by_cases h2:x.heads.length≤100
   ·
    have g2:¬(100:Int)<(x.heads.length:Int):=by omega
    have d2:=η (decide_eq_true h2);clear h2
    by_cases h3:x.cites.length≤100
    ·
     have g3:¬(100:Int)<(x.cites.length:Int):=by omega
     have d3:=η (decide_eq_true h3);clear h3
     by_cases h4:x.bibs.length≤8
     ·
      have g4:¬(8:Int)<(x.bibs.length:Int):=by omega
      have d4:=η (decide_eq_true h4);clear h4
      have hcl:x.cites.length≤1000000:=by omega
      have hbl:x.bibs.length≤1000000:=by omega
      have Hcl:=η hcl;have Hbl:=η hbl;clear hcl hbl
      cases kc
      ·
       go_wp2_with (go_at_call 107; refine (side_keys x.cites _ _ _ (HCt.out.below' Hb4.out) Hcl.out Hc3.out).mono ?_;rw [Hkc.out];rintro e w5 ⟨rfl,hb⟩;have Hb:=η hb;clear hb)
       go_meet
       case rel=>exact ⟨by rw [d1.out,d2.out,d3.out,d4.out];rfl,Hb.out⟩
      ·
       go_wp2_with (first
        | (go_at_call 107; with_reducible refine (side_keys x.cites _ _ _ (HCt.out.below' Hb4.out) Hcl.out Hc3.out).mono ?_;rw [Hkc.out];rintro e w5 ⟨rfl,hb⟩;have Hb:=η hb;have e63:=(hb.cell (p:=⟨w.heap.size,3,none⟩) hz4).trans e63;clear hb)
        | (go_at_call 107; with_reducible refine (side_keys x.bibs _ _ _ (HBb.out.below' (Hb4.out.trans (Hb.out.mono Hb4.out.size))) Hbl.out Hb3.out).mono ?_;rw [Hkb.out];rintro e w6 ⟨rfl,hb⟩;have Hb6:=η (Hb.out.trans (hb.mono Hb.out.size));clear hb))
       go_meet
       case rel=>exact ⟨by rw [d1.out,d2.out,d3.out,d4.out];cases kb <;> rfl,Hb6.out⟩
     ·
      have g4:(8:Int)<(x.bibs.length:Int):=by omega
      have d4:=η (decide_eq_false h4);clear h4
      go_wp2_with fail
      go_meet
      case rel=>exact ⟨by rw [d1.out,d2.out,d3.out,d4.out];rfl,Below.refl _ _⟩
    ·
     have g3:(100:Int)<(x.cites.length:Int):=by omega
     have d3:=η (decide_eq_false h3);clear h3
     go_wp2_with fail
     go_meet
     case rel=>exact ⟨by rw [d1.out,d2.out,d3.out];rfl,Below.refl _ _⟩
   ·
    have g2:(100:Int)<(x.heads.length:Int):=by omega
    have d2:=η (decide_eq_false h2);clear h2
    go_wp2_with fail
    go_meet
    case rel=>exact ⟨by rw [d1.out,d2.out];rfl,Below.refl _ _⟩
  ·
   have g1:(100:Int)<(x.labs.length:Int):=by omega
   have d1:=η (decide_eq_false h1);clear h1
   go_wp2_with fail
   go_meet
   case rel=>exact ⟨by rw [d1.out];rfl,Below.refl _ _⟩
 case rest =>
  obtain ⟨rfl,hbc⟩:=hcut
  have Hbc:=η (Hb4.out.trans (hbc.mono Hb4.out.size))
  have e60:=(hbc.cell (p:=⟨w.heap.size,0,none⟩) hz4).trans e60
  have e61:=(hbc.cell (p:=⟨w.heap.size,1,none⟩) hz4).trans e61
  have hzc:w.heap.size<wc.heap.size:=Nat.lt_of_lt_of_le hz4 hbc.size
  obtain ⟨bb,hbb⟩:∃bb,(!(decide (x.labs.length≤100)&&decide (x.heads.length≤100)&&decide (x.cites.length≤100)&&decide (x.bibs.length≤8)&&kc&&kb))=bb:=⟨_,rfl⟩
  have hbb2:(decide (x.labs.length≤100)&&decide (x.heads.length≤100)&&decide (x.cites.length≤100)&&decide (x.bibs.length≤8)&&kc&&kb) = !bb:=by rw [←hbb];simp
  have hl100:bb=false→x.labs.length≤100:=by
   intro h
   rw [h] at hbb2
   simp only [Bool.and_eq_true,decide_eq_true_eq,Bool.not_false] at hbb2
   exact hbb2.1.1.1.1.1
  rw [hbb2] at Hrt
  rw [hbb]
  have Hl100:=η hl100
  clear hbb hbb2 hbc hz4 hl100 e62 e63
  cases bb
  rotate_left
  ·
   have Hr:=η (show Sd.right x=false by rw [Hrt.out];rfl)
   clear e60 e61 hzc
   go_wp2_with fail
   go_ret
   exact ⟨ret_bool Hr.out.symm,Hbc.out⟩
  ·
   have hl100:=Hl100.out rfl
   have hrt2:Sd.right x=(x.labs.all Sd.labOk&&x.heads.all Sd.headOk&&Sd.keys (x.labs.map Sd.Lab.key)):=by rw [Hrt.out];simp
   have Hrt2:=η hrt2
   have E61:=η e61
   obtain ⟨wk,hwk⟩:∃wk,wk=wc:=⟨_,rfl⟩
   subst hwk
   clear hrt2 Hl100 e61
   go_wp2_with fail
   go_loopw [3,45] (fun av iv wr=>∃k:Nat,k≤x.labs.length∧iv = .int .i64 (k:Int)∧OwnL wk.heap.size 9 1 RStr wr av ((x.labs.take k).map Sd.Lab.key)∧x.labs.all Sd.labOk=(x.labs.drop k).all Sd.labOk∧Below wk.heap.size wk wr) (fun _ iv _=>x.labs.length - (intOf iv).toNat)
   case atStart=>exact ⟨0,Nat.zero_le _,rfl,OwnL.nil _ _ _ _ _,rfl,Below.refl _ _⟩
   case round =>
    obtain ⟨k,hk,rfl,hO,hall,hb⟩:=hrel
    have HO:=η hO;have Hall:=η hall;have Hbk:=η hb;have HB:=η (Hbc.out.trans (hb.mono Hbc.out.size))
    clear hO hall hb
    by_cases hlt:k<x.labs.length
    ·
     obtain ⟨y,hy⟩:∃y,x.labs[k]? = some y:=⟨_,List.getElem?_eq_getElem hlt⟩
     obtain ⟨b,off,vs,rfl,_,hbw,hR,hcc⟩:=Hlat.out k y hy
     have hR:vs=_:=hR
     subst hR
     have a0:wr.cell? ⟨b,off+k*3,none⟩=some (.string ⟨y.key.toArray⟩):=(HB.out.cell (p:=⟨b,off+k*3,none⟩) hbw).trans (hcc 0 _ rfl)
     have a1:wr.cell? ⟨b,off+k*3+1,none⟩=some (.string ⟨y.num.toArray⟩):=(HB.out.cell (p:=⟨b,off+k*3+1,none⟩) hbw).trans (hcc 1 _ rfl)
     have a2:wr.cell? ⟨b,off+k*3+2,none⟩=some (.int .i64 y.page):=(HB.out.cell (p:=⟨b,off+k*3+2,none⟩) hbw).trans (hcc 2 _ rfl)
     have hlt':(k:Int)<(x.labs.length:Int):=by omega
     have hdrop:x.labs.drop k=y::x.labs.drop (k+1):=by
      obtain ⟨h1,h2⟩:=List.getElem?_eq_some_iff.1 hy
      rw [List.drop_eq_getElem_cons h1,h2]
     have hall2:x.labs.all Sd.labOk=(Sd.labOk y&&(x.labs.drop (k+1)).all Sd.labOk):=by rw [Hall.out,hdrop];rfl
     have htk:(x.labs.take (k+1)).map Sd.Lab.key=(x.labs.take k).map Sd.Lab.key++[y.key]:=by rw [List.take_add_one,hy];simp
     have Hall2:=η hall2;have Htk:=η htk
     have hsy:=Hsm.out.lab y (List.mem_of_getElem? hy)
     have hym:y.num.length≤1000000:=hsy.2
     have hkl:(k:Int)+1≤9223372036854775807:=by omega
     have Hkl:=η hkl;have Hlt:=η hlt
     clear hcc hy hdrop hall2 htk hsy hkl
     go_upto_region 7 with fail
     have he6:∀(i:Nat) (u:Value),#[Value.string ⟨y.key.toArray⟩,.string ⟨y.num.toArray⟩,.int .i64 y.page][i]? = some u→(wr.alloc (.cells #[.string ⟨y.key.toArray⟩,.string ⟨y.num.toArray⟩,.int .i64 y.page] 127)).cell? ⟨wr.heap.size,i,none⟩=some u:=by
      intro i u hu
      rw [cell_of_row _ _ _ _ _ _ (heap_alloc_new wr _)]
      exact hu
     have hb7:=below_new wr (.cells #[.string ⟨y.key.toArray⟩,.string ⟨y.num.toArray⟩,.int .i64 y.page] 127)
     have hz7:=lt_alloc wr (.cells #[.string ⟨y.key.toArray⟩,.string ⟨y.num.toArray⟩,.int .i64 y.page] 127)
     generalize wr.alloc (.cells #[.string ⟨y.key.toArray⟩,.string ⟨y.num.toArray⟩,.int .i64 y.page] 127)=w7 at he6 hb7 hz7 ⊢
     obtain ⟨gl,hgl⟩:∃gl,gl=wr.heap.size:=⟨_,rfl⟩
     rw [←hgl] at he6 hz7 ⊢
     have c0:=he6 0 _ rfl;have c1:=he6 1 _ rfl;have c2:=he6 2 _ rfl
     have HB7:=η (Hbk.out.trans (hb7.mono Hbk.out.size))
     have HO7:=HO.out.below hb7
     obtain ⟨fl,hown,hrep⟩:=HO7
     have Hown:=η hown;have Hrep:=η hrep
     have hkge:wk.heap.size≤gl:=by rw [hgl];exact Hbk.out.size
     have Hkge:=η hkge
     have hnown:∀j,u3.ownBlock=some j→j<gl:=fun j hj=>by
      obtain ⟨fl0,h0,_⟩:=HO.out
      rw [hgl];exact (h0.lt j hj).2
     have Hnown:=η hnown
     have hkm:((x.labs.take k).map Sd.Lab.key).length≤1000000:=by rw [List.length_map,List.length_take];omega
     clear he6 hb7 hown hrep hgl hkge hnown a0 a1 a2
     go_upto_region 8 with (at_builtin;go_loud (refine wpList_append1 rfl (.tmp 49) (.tmp 52) 24 rfl wk.heap.size 9 i0 (.string ⟨#[]⟩) 1 16 Tryz.underlying24 Hi.out Hz0.out Hz1.out Hz2.out rfl (by decide) _ _ _ Hown.out rfl [.string ⟨y.key.toArray⟩] rfl (by simp) rfl (by simp [Value.oneCell']) (by unfold maxLen;omega) (by omega) HB7.out.size ?_);intro v2 w2 own2 g2 at2)
     have hne:u3.ownBlock≠some gl:=fun e=>by have:=Hnown.out gl e;omega
     have c1:=(grown_cell g2 hz7 hne 1).trans c1
     have c2:=(grown_cell g2 hz7 hne 2).trans c2
     have hz2':gl<w2.heap.size:=Nat.lt_of_lt_of_le hz7 g2.size
     have HB2:=η (HB7.out.grown g2 HB7.out.size (fun q e=>(Hown.out.lt q e).1))
     have HO2:OwnL wk.heap.size 9 1 RStr w2 v2 ((x.labs.take (k+1)).map Sd.Lab.key):=by rw [Htk.out];exact OwnL.more Hrep.out rfl own2
     have HO2:=η HO2
     clear own2 g2 at2 hne hz7 Hown Hrep HO HB7 hkm
     go_cut [65] (fun v wx=>v = .bool (!Sd.labOk y)∧Below w2.heap.size w2 wx)
     case first =>
      obtain ⟨pg,hpg⟩:∃pg,y.page=pg:=⟨_,rfl⟩
      rw [hpg] at c2
      have Hpg:=η hpg
      clear hpg
      have hlo:Sd.labOk y=(decide (y.num.length≤40)&&Sd.pageOk pg):=by rw [←Hpg.out];rfl
      have Hlo:=η hlo
      clear hlo hlt'
      refine wp_region_any (by kernel_rfl) ?_
      change wpAny _ _ _ _ _ _ _ (World.drew _)
      have hS:(fun W=>Below w2.heap.size w2 W) w2.drew:=(Below.refl _ _).drew
      generalize w2.drew=w8 at hS ⊢
      refine wpAny_of_held (S:=fun W=>Below w2.heap.size w2 W) _ _ _ _ ?_
      by_cases h40:y.num.length≤40
      ·
       have g40:¬(40:Int)<(y.num.length:Int):=by omega
       have D40:=η (decide_eq_true h40)
       clear h40
       cases hp:Sd.pageOk pg
       ·
        have Hp:=η hp
        have hcb:=cut_bad pg hp
        obtain ⟨cv,hcv⟩:∃cv,Cnt.cut pg=cv:=⟨_,rfl⟩
        rw [hcv] at hcb
        have Hcv:=η hcv
        clear hp hcv
        refine tk 0 (.pointer (some ⟨gl,1,none⟩)) rfl (h:=?_)
        refine tk 1 (.string ⟨y.num.toArray⟩) rfl (hy:=fun W hW=>by have q1:=(Below.cell hW (p:=⟨gl,1,none⟩) hz2').trans c1;go_simp) (h:=?_)
        refine tk 2 (.int .i64 (y.num.length:Int)) rfl (hy:=fun W hW=>by go_simp) (h:=?_)
        refine tk 3 (.bool false) rfl (hy:=fun W hW=>by (first | (go_simp;done) | (go_simp;omega))) (h:=?_)
        refine tk 4 (.bool false) rfl (h:=?_)
        refine tk 5 (.pointer (some ⟨gl,2,none⟩)) rfl (h:=?_)
        refine tk 6 (.int .i64 pg) rfl (hy:=fun W hW=>by have q1:=(Below.cell hW (p:=⟨gl,2,none⟩) hz2').trans c2;go_simp) (h:=?_)
        refine tk 7 (.pointer (some ⟨gl,2,none⟩)) rfl (h:=?_)
        refine tk 8 (.int .i64 pg) rfl (hy:=fun W hW=>by have q1:=(Below.cell hW (p:=⟨gl,2,none⟩) hz2').trans c2;go_simp) (h:=?_)
        try simp only [Act.put,π1,π2,π3,π4,π5,π6]
        refine tr 9 rfl (h:=fun K hK=>?_)
        go_simp
        go_wp2_with (go_at_call 81; refine (count_cut pg _).mono ?_;rintro e w9 ⟨rfl,rfl⟩;rw [Hcv.out])
        refine hK.out _ _ (hS) (fun _=>?_)
        clear K hK
        refine tk 10 (.bool true) rfl (hy:=fun W hW=>by (first | (go_simp;done) | (go_simp;omega))) (h:=?_)
        refine tk 11 (.bool true) rfl (h:=?_)
        try simp only [Act.put,π1,π2,π3,π4,π5,π6]
        refine wpAnyH_done (by kernel_rfl) ?_ _
        go_wp2_with fail
        go_meet
        case rel=>exact ⟨by rw [Hlo.out,D40.out,Hp.out];rfl,hS⟩
       ·
        have Hp:=η hp
        have Hcv:=η (cut_ok pg hp)
        clear hp
        refine tk 0 (.pointer (some ⟨gl,1,none⟩)) rfl (h:=?_)
        refine tk 1 (.string ⟨y.num.toArray⟩) rfl (hy:=fun W hW=>by have q1:=(Below.cell hW (p:=⟨gl,1,none⟩) hz2').trans c1;go_simp) (h:=?_)
        refine tk 2 (.int .i64 (y.num.length:Int)) rfl (hy:=fun W hW=>by go_simp) (h:=?_)
        refine tk 3 (.bool false) rfl (hy:=fun W hW=>by (first | (go_simp;done) | (go_simp;omega))) (h:=?_)
        refine tk 4 (.bool false) rfl (h:=?_)
        refine tk 5 (.pointer (some ⟨gl,2,none⟩)) rfl (h:=?_)
        refine tk 6 (.int .i64 pg) rfl (hy:=fun W hW=>by have q1:=(Below.cell hW (p:=⟨gl,2,none⟩) hz2').trans c2;go_simp) (h:=?_)
        refine tk 7 (.pointer (some ⟨gl,2,none⟩)) rfl (h:=?_)
        refine tk 8 (.int .i64 pg) rfl (hy:=fun W hW=>by have q1:=(Below.cell hW (p:=⟨gl,2,none⟩) hz2').trans c2;go_simp) (h:=?_)
        try simp only [Act.put,π1,π2,π3,π4,π5,π6]
        refine tr 9 rfl (h:=fun K hK=>?_)
        go_simp
        go_wp2_with (go_at_call 81; refine (count_cut pg _).mono ?_;rintro e w9 ⟨rfl,rfl⟩;rw [Hcv.out])
        refine hK.out _ _ (hS) (fun _=>?_)
        clear K hK
        refine tk 10 (.bool false) rfl (hy:=fun W hW=>by (first | (go_simp;done) | (go_simp;omega))) (h:=?_)
        refine tk 11 (.bool false) rfl (h:=?_)
        try simp only [Act.put,π1,π2,π3,π4,π5,π6]
        refine wpAnyH_done (by kernel_rfl) ?_ _
        go_wp2_with fail
        go_meet
        case rel=>exact ⟨by rw [Hlo.out,D40.out,Hp.out];rfl,hS⟩
      ·
       have g40:(40:Int)<(y.num.length:Int):=by omega
       have D40:=η (decide_eq_false h40)
       clear h40
       refine tk 0 (.pointer (some ⟨gl,1,none⟩)) rfl (h:=?_)
       refine tk 1 (.string ⟨y.num.toArray⟩) rfl (hy:=fun W hW=>by have q1:=(Below.cell hW (p:=⟨gl,1,none⟩) hz2').trans c1;go_simp) (h:=?_)
       refine tk 2 (.int .i64 (y.num.length:Int)) rfl (hy:=fun W hW=>by go_simp) (h:=?_)
       refine tk 3 (.bool true) rfl (hy:=fun W hW=>by (first | (go_simp;done) | (go_simp;omega))) (h:=?_)
       refine tk 4 (.bool true) rfl (h:=?_)
       refine ts 5 rfl (h:=?_)
       refine ts 6 rfl (h:=?_)
       refine ts 7 rfl (h:=?_)
       refine ts 8 rfl (h:=?_)
       refine ts 9 rfl (h:=?_)
       refine ts 10 rfl (h:=?_)
       refine tk 11 (.bool true) rfl (h:=?_)
       try simp only [Act.put,π1,π2,π3,π4,π5,π6]
       refine wpAnyH_done (by kernel_rfl) ?_ _
       go_wp2_with fail
       go_meet
       case rel=>exact ⟨by rw [Hlo.out,D40.out];rfl,hS⟩
     case rest =>
      obtain ⟨rfl,hbd⟩:=hcut
      have HB9:=η (HB2.out.trans (hbd.mono HB2.out.size))
      have HO9:=η (HO2.out.below hbd)
      obtain ⟨lo,hlo⟩:∃lo,(!Sd.labOk y)=lo:=⟨_,rfl⟩
      have hlo2:Sd.labOk y = !lo:=by rw [←hlo];simp
      rw [hlo2] at Hall2
      rw [hlo]
      clear hbd hlo hlo2 c1 c2 hz2' c0
      cases lo
      rotate_left
      ·
       have Hr:=η (show Sd.right x=false by rw [Hrt2.out,Hall2.out];rfl)
       clear hlt'
       go_wp2_with fail
       go_ret
       exact ⟨ret_bool Hr.out.symm,Hbc.out.trans (HB9.out.mono Hbc.out.size)⟩
      ·
       have hkl:=Hkl.out
       go_wp2_with fail
       go_roundw
       case rel=>exact ⟨k+1,by have:=Hlt.out;omega,by go_num,HO9.out,by rw [Hall2.out];rfl,HB9.out⟩
       case measure=>have:=Hlt.out;simp [intOf];omega
    ·
     have hlt':¬(k:Int)<(x.labs.length:Int):=by omega
     have hdn:x.labs.drop k=[]:=List.drop_of_length_le (by omega)
     have htk:x.labs.take k=x.labs:=List.take_of_length_le (by omega)
     have Hrt3:=η (show Sd.right x=(x.heads.all Sd.headOk&&Sd.keys (x.labs.map Sd.Lab.key)) by rw [Hrt2.out,Hall.out,hdn];rfl)
     rw [htk] at HO
     have e61:=(Hbk.out.cell (p:=⟨w.heap.size,1,none⟩) hzc).trans E61.out
     obtain ⟨wm,hwm⟩:∃wm,wm=wr:=⟨_,rfl⟩
     subst hwm
     have hhl0:(x.heads.length:Int)≤9223372036854775807:=by omega
     clear hdn htk Hall Hbk hlt hk e60
     go_wp2_with fail
     go_loopw [70] (fun iv wr=>∃k:Nat,k≤x.heads.length∧iv = .int .i64 (k:Int)∧x.heads.all Sd.headOk=(x.heads.drop k).all Sd.headOk∧Below wm.heap.size wm wr) (fun iv _=>x.heads.length - (intOf iv).toNat)
     case atStart=>exact ⟨0,Nat.zero_le _,rfl,rfl,Below.refl _ _⟩
     case round =>
      obtain ⟨k2,hk2,rfl,hall,hb⟩:=hrel
      have Hall:=η hall;have Hbk:=η hb;have HBB:=η (HB.out.trans (hb.mono HB.out.size))
      clear hall hb
      by_cases hlt2:k2<x.heads.length
      ·
       obtain ⟨y,hy⟩:∃y,x.heads[k2]? = some y:=⟨_,List.getElem?_eq_getElem hlt2⟩
       obtain ⟨b,off,vs,rfl,_,hbw,hR,hcc⟩:=Hhat.out k2 y hy
       have hR:vs=_:=hR
       subst hR
       have a0:wr.cell? ⟨b,off+k2*4,none⟩=some (.int .i64 y.level):=(HBB.out.cell (p:=⟨b,off+k2*4,none⟩) hbw).trans (hcc 0 _ rfl)
       have a1:wr.cell? ⟨b,off+k2*4+1,none⟩=some (.string ⟨y.num.toArray⟩):=(HBB.out.cell (p:=⟨b,off+k2*4+1,none⟩) hbw).trans (hcc 1 _ rfl)
       have a2:wr.cell? ⟨b,off+k2*4+2,none⟩=some (.string ⟨y.title.toArray⟩):=(HBB.out.cell (p:=⟨b,off+k2*4+2,none⟩) hbw).trans (hcc 2 _ rfl)
       have a3:wr.cell? ⟨b,off+k2*4+3,none⟩=some (.int .i64 y.page):=(HBB.out.cell (p:=⟨b,off+k2*4+3,none⟩) hbw).trans (hcc 3 _ rfl)
       have hlt2':(k2:Int)<(x.heads.length:Int):=by omega
       have hdrop:x.heads.drop k2=y::x.heads.drop (k2+1):=by
        obtain ⟨h1,h2⟩:=List.getElem?_eq_some_iff.1 hy
        rw [List.drop_eq_getElem_cons h1,h2]
       have hall2:x.heads.all Sd.headOk=(Sd.headOk y&&(x.heads.drop (k2+1)).all Sd.headOk):=by rw [Hall.out,hdrop];rfl
       have Hall2:=η hall2
       have hsy:=Hsm.out.head y (List.mem_of_getElem? hy)
       have hym:y.num.length≤1000000:=hsy.1
       have hyt:y.title.length≤1000000:=hsy.2
       have hkl:(k2:Int)+1≤9223372036854775807:=by omega
       have Hkl:=η hkl;have Hlt:=η hlt2;have Hyt:=η hyt
       clear hcc hy hdrop hall2 hsy hkl hyt
       go_upto_region 14 with fail
       have he6:∀(i:Nat) (u:Value),#[Value.int .i64 y.level,.string ⟨y.num.toArray⟩,.string ⟨y.title.toArray⟩,.int .i64 y.page][i]? = some u→(wr.alloc (.cells #[.int .i64 y.level,.string ⟨y.num.toArray⟩,.string ⟨y.title.toArray⟩,.int .i64 y.page] 129)).cell? ⟨wr.heap.size,i,none⟩=some u:=by
        intro i u hu
        rw [cell_of_row _ _ _ _ _ _ (heap_alloc_new wr _)]
        exact hu
       have hb7:=below_new wr (.cells #[.int .i64 y.level,.string ⟨y.num.toArray⟩,.string ⟨y.title.toArray⟩,.int .i64 y.page] 129)
       have hz7:=lt_alloc wr (.cells #[.int .i64 y.level,.string ⟨y.num.toArray⟩,.string ⟨y.title.toArray⟩,.int .i64 y.page] 129)
       generalize wr.alloc (.cells #[.int .i64 y.level,.string ⟨y.num.toArray⟩,.string ⟨y.title.toArray⟩,.int .i64 y.page] 129)=w2 at he6 hb7 hz7 ⊢
       obtain ⟨gl,hgl⟩:∃gl,gl=wr.heap.size:=⟨_,rfl⟩
       rw [←hgl] at he6 hz7 ⊢
       have c0:=he6 0 _ rfl;have c1:=he6 1 _ rfl;have c2:=he6 2 _ rfl;have c3:=he6 3 _ rfl
       have HB2:=η (Hbk.out.trans (hb7.mono Hbk.out.size))
       clear he6 hb7 hgl a0 a1 a2 a3
       go_cut [101] (fun v wx=>v = .bool (!Sd.headOk y)∧Below w2.heap.size w2 wx)
       case first =>
        obtain ⟨pg,hpg⟩:∃pg,y.page=pg:=⟨_,rfl⟩
        obtain ⟨lv,hlv⟩:∃lv,y.level=lv:=⟨_,rfl⟩
        rw [hpg] at c3
        rw [hlv] at c0
        have Hpg:=η hpg;have Hlv:=η hlv
        clear hpg hlv
        have hlo:Sd.headOk y=(decide (y.num.length≤40)&&Sd.pageOk pg&&decide (1≤lv)&&decide (lv≤2)&&Sd.key y.title):=by rw [←Hpg.out,←Hlv.out];rfl
        have Hlo:=η hlo
        clear hlo hlt2'
        refine wp_region_any (by kernel_rfl) ?_
        change wpAny _ _ _ _ _ _ _ (World.drew _)
        have hS:(fun W=>Below w2.heap.size w2 W) w2.drew:=(Below.refl _ _).drew
        generalize w2.drew=w8 at hS ⊢
        refine wpAny_of_held (S:=fun W=>Below w2.heap.size w2 W) _ _ _ _ ?_
        by_cases h40:y.num.length≤40
        ·
         have g40:¬(40:Int)<(y.num.length:Int):=by omega
         have D40:=η (decide_eq_true h40)
         clear h40
         cases hp:Sd.pageOk pg
         ·
          have Hp:=η hp
          have hcb:=cut_bad pg hp
          obtain ⟨cv,hcv⟩:∃cv,Cnt.cut pg=cv:=⟨_,rfl⟩
          rw [hcv] at hcb
          have Hcv:=η hcv
          clear hp hcv
          refine tk 0 (.pointer (some ⟨gl,1,none⟩)) rfl (h:=?_)
          refine tk 1 (.string ⟨y.num.toArray⟩) rfl (hy:=fun W hW=>by have q1:=(Below.cell hW (p:=⟨gl,1,none⟩) hz7).trans c1;go_simp) (h:=?_)
          refine tk 2 (.int .i64 (y.num.length:Int)) rfl (hy:=fun W hW=>by go_simp) (h:=?_)
          refine tk 3 (.bool false) rfl (hy:=fun W hW=>by (first | (go_simp;done) | (go_simp;omega))) (h:=?_)
          refine tk 4 (.bool false) rfl (h:=?_)
          refine tk 5 (.pointer (some ⟨gl,3,none⟩)) rfl (h:=?_)
          refine tk 6 (.int .i64 pg) rfl (hy:=fun W hW=>by have q1:=(Below.cell hW (p:=⟨gl,3,none⟩) hz7).trans c3;go_simp) (h:=?_)
          refine tk 7 (.pointer (some ⟨gl,3,none⟩)) rfl (h:=?_)
          refine tk 8 (.int .i64 pg) rfl (hy:=fun W hW=>by have q1:=(Below.cell hW (p:=⟨gl,3,none⟩) hz7).trans c3;go_simp) (h:=?_)
          try simp only [Act.put,π1,π2,π3,π4,π5,π6]
          refine tr 9 rfl (h:=fun K hK=>?_)
          go_simp
          go_wp2_with (go_at_call 81; refine (count_cut pg _).mono ?_;rintro e w9 ⟨rfl,rfl⟩;rw [Hcv.out])
          refine hK.out _ _ (hS) (fun _=>?_)
          clear K hK
          refine tk 10 (.bool true) rfl (hy:=fun W hW=>by (first | (go_simp;done) | (go_simp;omega))) (h:=?_)
          refine tk 11 (.bool true) rfl (h:=?_)
          refine tk 12 (.bool true) rfl (h:=?_)
          refine ts 13 rfl (h:=?_)
          refine ts 14 rfl (h:=?_)
          refine ts 15 rfl (h:=?_)
          refine tk 16 (.bool true) rfl (h:=?_)
          refine tk 17 (.bool true) rfl (h:=?_)
          refine ts 18 rfl (h:=?_)
          refine ts 19 rfl (h:=?_)
          refine ts 20 rfl (h:=?_)
          refine tk 21 (.bool true) rfl (h:=?_)
          refine tk 22 (.bool true) rfl (h:=?_)
          refine ts 23 rfl (h:=?_)
          refine ts 24 rfl (h:=?_)
          refine ts 25 rfl (h:=?_)
          refine ts 26 rfl (h:=?_)
          refine tk 27 (.bool true) rfl (h:=?_)
          try simp only [Act.put,π1,π2,π3,π4,π5,π6]
          refine wpAnyH_done (by kernel_rfl) ?_ _
          go_wp2_with fail
          go_meet
          case rel=>exact ⟨by rw [Hlo.out,D40.out,Hp.out];rfl,hS⟩
         ·
          have Hp:=η hp
          have Hcv:=η (cut_ok pg hp)
          clear hp
          by_cases h1:1≤lv
          ·
           have D1:=η (decide_eq_true h1)
           have g1:¬lv<1:=by omega
           clear h1
           by_cases h2:lv≤2
           ·
            have D2:=η (decide_eq_true h2)
            have g2:¬(2:Int)<lv:=by omega
            clear h2
            obtain ⟨kt,hkt⟩:∃kt,Sd.key y.title=kt:=⟨_,rfl⟩
            have Hkt:=η hkt
            clear hkt
            refine tk 0 (.pointer (some ⟨gl,1,none⟩)) rfl (h:=?_)
            refine tk 1 (.string ⟨y.num.toArray⟩) rfl (hy:=fun W hW=>by have q1:=(Below.cell hW (p:=⟨gl,1,none⟩) hz7).trans c1;go_simp) (h:=?_)
            refine tk 2 (.int .i64 (y.num.length:Int)) rfl (hy:=fun W hW=>by go_simp) (h:=?_)
            refine tk 3 (.bool false) rfl (hy:=fun W hW=>by (first | (go_simp;done) | (go_simp;omega))) (h:=?_)
            refine tk 4 (.bool false) rfl (h:=?_)
            refine tk 5 (.pointer (some ⟨gl,3,none⟩)) rfl (h:=?_)
            refine tk 6 (.int .i64 pg) rfl (hy:=fun W hW=>by have q1:=(Below.cell hW (p:=⟨gl,3,none⟩) hz7).trans c3;go_simp) (h:=?_)
            refine tk 7 (.pointer (some ⟨gl,3,none⟩)) rfl (h:=?_)
            refine tk 8 (.int .i64 pg) rfl (hy:=fun W hW=>by have q1:=(Below.cell hW (p:=⟨gl,3,none⟩) hz7).trans c3;go_simp) (h:=?_)
            try simp only [Act.put,π1,π2,π3,π4,π5,π6]
            refine tr 9 rfl (h:=fun K hK=>?_)
            go_simp
            go_wp2_with (go_at_call 81; refine (count_cut pg _).mono ?_;rintro e w9 ⟨rfl,rfl⟩;rw [Hcv.out])
            refine hK.out _ _ (hS) (fun _=>?_)
            clear K hK
            refine tk 10 (.bool false) rfl (hy:=fun W hW=>by (first | (go_simp;done) | (go_simp;omega))) (h:=?_)
            refine tk 11 (.bool false) rfl (h:=?_)
            refine tk 12 (.bool false) rfl (h:=?_)
            refine tk 13 (.pointer (some ⟨gl,0,none⟩)) rfl (h:=?_)
            refine tk 14 (.int .i64 lv) rfl (hy:=fun W hW=>by have q1:=(Below.cell hW (p:=⟨gl,0,none⟩) hz7).trans c0;go_simp) (h:=?_)
            refine tk 15 (.bool false) rfl (hy:=fun W hW=>by (first | (go_simp;done) | (go_simp;omega))) (h:=?_)
            refine tk 16 (.bool false) rfl (h:=?_)
            refine tk 17 (.bool false) rfl (h:=?_)
            refine tk 18 (.pointer (some ⟨gl,0,none⟩)) rfl (h:=?_)
            refine tk 19 (.int .i64 lv) rfl (hy:=fun W hW=>by have q1:=(Below.cell hW (p:=⟨gl,0,none⟩) hz7).trans c0;go_simp) (h:=?_)
            refine tk 20 (.bool false) rfl (hy:=fun W hW=>by (first | (go_simp;done) | (go_simp;omega))) (h:=?_)
            refine tk 21 (.bool false) rfl (h:=?_)
            refine tk 22 (.bool false) rfl (h:=?_)
            refine tk 23 (.pointer (some ⟨gl,2,none⟩)) rfl (h:=?_)
            refine tk 24 (.string ⟨y.title.toArray⟩) rfl (hy:=fun W hW=>by have q1:=(Below.cell hW (p:=⟨gl,2,none⟩) hz7).trans c2;go_simp) (h:=?_)
            try simp only [Act.put,π1,π2,π3,π4,π5,π6]
            refine tr 25 rfl (h:=fun K hK=>?_)
            go_simp
            go_wp2_with (go_at_call 108; refine (side_key y.title _ Hyt.out).mono ?_;rw [Hkt.out];rintro e w9 ⟨rfl,hb9⟩;replace hS:=Below.trans hS (hb9.mono (Below.size hS));clear hb9)
            refine hK.out _ _ (hS) (fun _=>?_)
            clear K hK
            refine tk 26 (.bool (!kt)) rfl (h:=?_)
            refine tk 27 (.bool (!kt)) rfl (h:=?_)
            try simp only [Act.put,π1,π2,π3,π4,π5,π6]
            refine wpAnyH_done (by kernel_rfl) ?_ _
            go_wp2_with fail
            go_meet
            case rel=>exact ⟨by rw [Hlo.out,D40.out,Hp.out,D1.out,D2.out,Hkt.out];cases kt <;> rfl,hS⟩
           ·
            have D2:=η (decide_eq_false h2)
            have g2:(2:Int)<lv:=by omega
            clear h2
            refine tk 0 (.pointer (some ⟨gl,1,none⟩)) rfl (h:=?_)
            refine tk 1 (.string ⟨y.num.toArray⟩) rfl (hy:=fun W hW=>by have q1:=(Below.cell hW (p:=⟨gl,1,none⟩) hz7).trans c1;go_simp) (h:=?_)
            refine tk 2 (.int .i64 (y.num.length:Int)) rfl (hy:=fun W hW=>by go_simp) (h:=?_)
            refine tk 3 (.bool false) rfl (hy:=fun W hW=>by (first | (go_simp;done) | (go_simp;omega))) (h:=?_)
            refine tk 4 (.bool false) rfl (h:=?_)
            refine tk 5 (.pointer (some ⟨gl,3,none⟩)) rfl (h:=?_)
            refine tk 6 (.int .i64 pg) rfl (hy:=fun W hW=>by have q1:=(Below.cell hW (p:=⟨gl,3,none⟩) hz7).trans c3;go_simp) (h:=?_)
            refine tk 7 (.pointer (some ⟨gl,3,none⟩)) rfl (h:=?_)
            refine tk 8 (.int .i64 pg) rfl (hy:=fun W hW=>by have q1:=(Below.cell hW (p:=⟨gl,3,none⟩) hz7).trans c3;go_simp) (h:=?_)
            try simp only [Act.put,π1,π2,π3,π4,π5,π6]
            refine tr 9 rfl (h:=fun K hK=>?_)
            go_simp
            go_wp2_with (go_at_call 81; refine (count_cut pg _).mono ?_;rintro e w9 ⟨rfl,rfl⟩;rw [Hcv.out])
            refine hK.out _ _ (hS) (fun _=>?_)
            clear K hK
            refine tk 10 (.bool false) rfl (hy:=fun W hW=>by (first | (go_simp;done) | (go_simp;omega))) (h:=?_)
            refine tk 11 (.bool false) rfl (h:=?_)
            refine tk 12 (.bool false) rfl (h:=?_)
            refine tk 13 (.pointer (some ⟨gl,0,none⟩)) rfl (h:=?_)
            refine tk 14 (.int .i64 lv) rfl (hy:=fun W hW=>by have q1:=(Below.cell hW (p:=⟨gl,0,none⟩) hz7).trans c0;go_simp) (h:=?_)
            refine tk 15 (.bool false) rfl (hy:=fun W hW=>by (first | (go_simp;done) | (go_simp;omega))) (h:=?_)
            refine tk 16 (.bool false) rfl (h:=?_)
            refine tk 17 (.bool false) rfl (h:=?_)
            refine tk 18 (.pointer (some ⟨gl,0,none⟩)) rfl (h:=?_)
            refine tk 19 (.int .i64 lv) rfl (hy:=fun W hW=>by have q1:=(Below.cell hW (p:=⟨gl,0,none⟩) hz7).trans c0;go_simp) (h:=?_)
            refine tk 20 (.bool true) rfl (hy:=fun W hW=>by (first | (go_simp;done) | (go_simp;omega))) (h:=?_)
            refine tk 21 (.bool true) rfl (h:=?_)
            refine tk 22 (.bool true) rfl (h:=?_)
            refine ts 23 rfl (h:=?_)
            refine ts 24 rfl (h:=?_)
            refine ts 25 rfl (h:=?_)
            refine ts 26 rfl (h:=?_)
            refine tk 27 (.bool true) rfl (h:=?_)
            try simp only [Act.put,π1,π2,π3,π4,π5,π6]
            refine wpAnyH_done (by kernel_rfl) ?_ _
            go_wp2_with fail
            go_meet
            case rel=>exact ⟨by rw [Hlo.out,D40.out,Hp.out,D1.out,D2.out];rfl,hS⟩
          ·
           have D1:=η (decide_eq_false h1)
           have g1:lv<1:=by omega
           clear h1
           refine tk 0 (.pointer (some ⟨gl,1,none⟩)) rfl (h:=?_)
           refine tk 1 (.string ⟨y.num.toArray⟩) rfl (hy:=fun W hW=>by have q1:=(Below.cell hW (p:=⟨gl,1,none⟩) hz7).trans c1;go_simp) (h:=?_)
           refine tk 2 (.int .i64 (y.num.length:Int)) rfl (hy:=fun W hW=>by go_simp) (h:=?_)
           refine tk 3 (.bool false) rfl (hy:=fun W hW=>by (first | (go_simp;done) | (go_simp;omega))) (h:=?_)
           refine tk 4 (.bool false) rfl (h:=?_)
           refine tk 5 (.pointer (some ⟨gl,3,none⟩)) rfl (h:=?_)
           refine tk 6 (.int .i64 pg) rfl (hy:=fun W hW=>by have q1:=(Below.cell hW (p:=⟨gl,3,none⟩) hz7).trans c3;go_simp) (h:=?_)
           refine tk 7 (.pointer (some ⟨gl,3,none⟩)) rfl (h:=?_)
           refine tk 8 (.int .i64 pg) rfl (hy:=fun W hW=>by have q1:=(Below.cell hW (p:=⟨gl,3,none⟩) hz7).trans c3;go_simp) (h:=?_)
           try simp only [Act.put,π1,π2,π3,π4,π5,π6]
           refine tr 9 rfl (h:=fun K hK=>?_)
           go_simp
           go_wp2_with (go_at_call 81; refine (count_cut pg _).mono ?_;rintro e w9 ⟨rfl,rfl⟩;rw [Hcv.out])
           refine hK.out _ _ (hS) (fun _=>?_)
           clear K hK
           refine tk 10 (.bool false) rfl (hy:=fun W hW=>by (first | (go_simp;done) | (go_simp;omega))) (h:=?_)
           refine tk 11 (.bool false) rfl (h:=?_)
           refine tk 12 (.bool false) rfl (h:=?_)
           refine tk 13 (.pointer (some ⟨gl,0,none⟩)) rfl (h:=?_)
           refine tk 14 (.int .i64 lv) rfl (hy:=fun W hW=>by have q1:=(Below.cell hW (p:=⟨gl,0,none⟩) hz7).trans c0;go_simp) (h:=?_)
           refine tk 15 (.bool true) rfl (hy:=fun W hW=>by (first | (go_simp;done) | (go_simp;omega))) (h:=?_)
           refine tk 16 (.bool true) rfl (h:=?_)
           refine tk 17 (.bool true) rfl (h:=?_)
           refine ts 18 rfl (h:=?_)
           refine ts 19 rfl (h:=?_)
           refine ts 20 rfl (h:=?_)
           refine tk 21 (.bool true) rfl (h:=?_)
           refine tk 22 (.bool true) rfl (h:=?_)
           refine ts 23 rfl (h:=?_)
           refine ts 24 rfl (h:=?_)
           refine ts 25 rfl (h:=?_)
           refine ts 26 rfl (h:=?_)
           refine tk 27 (.bool true) rfl (h:=?_)
           try simp only [Act.put,π1,π2,π3,π4,π5,π6]
           refine wpAnyH_done (by kernel_rfl) ?_ _
           go_wp2_with fail
           go_meet
           case rel=>exact ⟨by rw [Hlo.out,D40.out,Hp.out,D1.out];rfl,hS⟩
        ·
         have g40:(40:Int)<(y.num.length:Int):=by omega
         have D40:=η (decide_eq_false h40)
         clear h40
         refine tk 0 (.pointer (some ⟨gl,1,none⟩)) rfl (h:=?_)
         refine tk 1 (.string ⟨y.num.toArray⟩) rfl (hy:=fun W hW=>by have q1:=(Below.cell hW (p:=⟨gl,1,none⟩) hz7).trans c1;go_simp) (h:=?_)
         refine tk 2 (.int .i64 (y.num.length:Int)) rfl (hy:=fun W hW=>by go_simp) (h:=?_)
         refine tk 3 (.bool true) rfl (hy:=fun W hW=>by (first | (go_simp;done) | (go_simp;omega))) (h:=?_)
         refine tk 4 (.bool true) rfl (h:=?_)
         refine ts 5 rfl (h:=?_)
         refine ts 6 rfl (h:=?_)
         refine ts 7 rfl (h:=?_)
         refine ts 8 rfl (h:=?_)
         refine ts 9 rfl (h:=?_)
         refine ts 10 rfl (h:=?_)
         refine tk 11 (.bool true) rfl (h:=?_)
         refine tk 12 (.bool true) rfl (h:=?_)
         refine ts 13 rfl (h:=?_)
         refine ts 14 rfl (h:=?_)
         refine ts 15 rfl (h:=?_)
         refine tk 16 (.bool true) rfl (h:=?_)
         refine tk 17 (.bool true) rfl (h:=?_)
         refine ts 18 rfl (h:=?_)
         refine ts 19 rfl (h:=?_)
         refine ts 20 rfl (h:=?_)
         refine tk 21 (.bool true) rfl (h:=?_)
         refine tk 22 (.bool true) rfl (h:=?_)
         refine ts 23 rfl (h:=?_)
         refine ts 24 rfl (h:=?_)
         refine ts 25 rfl (h:=?_)
         refine ts 26 rfl (h:=?_)
         refine tk 27 (.bool true) rfl (h:=?_)
         try simp only [Act.put,π1,π2,π3,π4,π5,π6]
         refine wpAnyH_done (by kernel_rfl) ?_ _
         go_wp2_with fail
         go_meet
         case rel=>exact ⟨by rw [Hlo.out,D40.out];rfl,hS⟩
       case rest =>
        obtain ⟨rfl,hbd⟩:=hcut
        have HB9:=η (HB2.out.trans (hbd.mono HB2.out.size))
        obtain ⟨lo,hlo⟩:∃lo,(!Sd.headOk y)=lo:=⟨_,rfl⟩
        have hlo2:Sd.headOk y = !lo:=by rw [←hlo];simp
        rw [hlo2] at Hall2
        rw [hlo]
        clear hbd hlo hlo2 c0 c1 c2 c3 hz7
        cases lo
        rotate_left
        ·
         have Hr:=η (show Sd.right x=false by rw [Hrt3.out,Hall2.out];rfl)
         clear hlt2'
         go_wp2_with fail
         go_ret
         exact ⟨ret_bool Hr.out.symm,HB.out.trans (HB9.out.mono HB.out.size)⟩
        ·
         have hkl:=Hkl.out
         go_wp2_with fail
         go_roundw
         case rel=>exact ⟨k2+1,by have:=Hlt.out;omega,by go_num,by rw [Hall2.out];rfl,HB9.out⟩
         case measure=>have:=Hlt.out;simp [intOf];omega
      ·
       have hlt2':¬(k2:Int)<(x.heads.length:Int):=by omega
       have hdn:x.heads.drop k2=[]:=List.drop_of_length_le (by omega)
       have Hr:=η (show Sd.right x=Sd.keys (x.labs.map Sd.Lab.key) by rw [Hrt3.out,Hall.out,hdn];rfl)
       have hsl2:=(HO.out.below Hbk.out).slice RStr.size (fun _=>True) (fun _ _=>trivial)
       have Hsl:=η hsl2
       have hkl1:(x.labs.map Sd.Lab.key).length≤1000000:=by rw [List.length_map];omega
       have hkl2:∀s ∈ x.labs.map Sd.Lab.key,s.length≤1000000:=fun s hs=>by
        obtain ⟨l,hl,rfl⟩:=List.mem_map.1 hs
        exact (Hsm.out.lab l hl).1
       have Hkl2:=η hkl2
       clear hsl2 hdn hkl2
       go_wp2_with (go_at_call 107; refine (side_keys _ _ _ _ Hsl.out hkl1 Hkl2.out).mono ?_;rintro e w9 ⟨rfl,hb9⟩;have HB9:=η (HBB.out.trans (hb9.mono HBB.out.size));clear hb9)
       go_ret
       exact ⟨ret_bool Hr.out.symm,HB9.out⟩
end Go.Proofs.YtgnfmopcialllaaGreatDoor
