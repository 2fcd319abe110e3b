/- The walks of package name, sixth part: Parse. The walks of package name, seventh part: whole, head, Key. -/
import Derived.Test.YtgnfmopcialllaaGreatDoorTk
import Derived.Test.YtgnfmopcialllaaGreatDoorG10
import Derived.Test.YtgnfmopcialllaaGreatDoorG01
set_option linter.unusedSimpArgs false
set_option linter.unusedVariables false
namespace Go.Proofs.YtgnfmopcialllaaGreatDoor
open Go.RowKit
structure PSt (w W:World) (g q:Nat) (a b c d:Value) (v:Value) (l:List (List UInt8)):Prop where
 p:P4 W g a b c d
 r:P4 W q (.string ⟨#[]⟩) (.string ⟨#[]⟩) (.string ⟨#[]⟩) (.string ⟨#[]⟩)
 s:SliceIn (fun j=>j<g) 1 RStr W v l
 h:Below w.heap.size w W
 hq:q<g
 hw:w.heap.size≤q
section
variable {w W W':World} {g q:Nat} {a b c d v:Value} {l:List (List UInt8)}
theorem PSt.below (h:PSt w W g q a b c d v l) (hb:Below W.heap.size W W'):PSt w W' g q a b c d v l :=
 ⟨h.p.below' hb,h.r.below' hb,h.s.below' hb,h.h.trans (hb.mono h.h.size),h.hq,h.hw⟩
theorem PSt.drew (h:PSt w W g q a b c d v l):PSt w W.drew g q a b c d v l :=
 h.below (Below.refl _ _).drew
theorem PSt.set (h:PSt w W g q a b c d v l) (i:Nat) (u:Value) {a' b' c' d':Value} (hp:P4 (W.setCell ⟨g,i,none⟩ u) g a' b' c' d'):PSt w (W.setCell ⟨g,i,none⟩ u) g q a' b' c' d' v l :=
 ⟨hp,h.r.other (Nat.ne_of_gt h.hq) i u,h.s.set4 (fun j hj=>Nat.ne_of_lt hj) i u,h.h.setCell (p:=⟨g,i,none⟩) (Nat.le_trans h.hw (Nat.le_of_lt h.hq)) u,h.hq,h.hw⟩
end
theorem cell4_other (w:World) (q g k:Nat) (a b c d:Value) (h:q≠g):((((w.setCell ⟨q,0,none⟩ a).setCell ⟨q,1,none⟩ b).setCell ⟨q,2,none⟩ c).setCell ⟨q,3,none⟩ d).cell? ⟨g,k,none⟩=w.cell? ⟨g,k,none⟩:=by
 have e:∀(W:World) (i:Nat) (v:Value),(W.setCell ⟨q,i,none⟩ v).cell? ⟨g,k,none⟩=W.cell? ⟨g,k,none⟩:=fun W i v=>World.cell?_setCell_other _ _ _ _ (fun e=>h (by cases e;rfl))
 rw [e,e,e,e]
theorem parse_eq (s p0:List UInt8) (h:(Lb.commas s)[0]? = some p0):Lb.parse s =
  if 1<(Lb.commas s).length then
   if 2<(Lb.commas s).length then ⟨Lb.join (Lb.words ((Lb.commas s).getD 2 [])),Lb.join ((Lb.words p0).take (Lb.lastN (Lb.words p0))),Lb.join ((Lb.words p0).drop (Lb.lastN (Lb.words p0))),Lb.join (Lb.words ((Lb.commas s).getD 1 []))⟩
   else ⟨Lb.join (Lb.words ((Lb.commas s).getD 1 [])),Lb.join ((Lb.words p0).take (Lb.lastN (Lb.words p0))),Lb.join ((Lb.words p0).drop (Lb.lastN (Lb.words p0))),[]⟩
  else if (Lb.words p0).isEmpty then ⟨[],[],[],[]⟩
  else if Lb.lastN (Lb.words p0)=0 then ⟨Lb.join ((Lb.words p0).take ((Lb.words p0).length - 1)),[],(Lb.words p0).getD ((Lb.words p0).length - 1) [],[]⟩
  else ⟨Lb.join ((Lb.words p0).take ((Lb.words p0).findIdx Lb.smallW)),Lb.join (((Lb.words p0).take (Lb.lastN (Lb.words p0))).drop ((Lb.words p0).findIdx Lb.smallW)),Lb.join ((Lb.words p0).drop (Lb.lastN (Lb.words p0))),[]⟩:=by
 unfold Lb.parse
 rw [List.getD_eq_getElem?_getD,h]
 rfl
theorem comma_len (s p:List UInt8) (i:Nat) (h:(Lb.commas s)[i]? = some p):p.length≤s.length:=by
 have h1:=Lb.mem_tot _ p (List.mem_of_getElem? h)
 have h2:=Lb.tot_pieces (fun c=>c == 44) s []
 unfold Lb.commas at h1
 rw [h2] at h1
 simp at h1;omega
theorem getD_some (l:List (List UInt8)) (i:Nat) (x:List UInt8) (h:l[i]? = some x):l.getD i []=x:=by rw [List.getD_eq_getElem?_getD,h];rfl
set_option maxRecDepth 100000 in
set_option maxHeartbeats 3200000 in
theorem nm_Parse (s:List UInt8) (m:Int) (w:World) (hs:s.length≤500000) (hm:w.cell? ⟨2, 0,none⟩=some (.int .i64 m)) (h0 : 2 < w.heap.size) :
  Calls Tryz.prog 137 #[.string ⟨s.toArray⟩] w fun e w'=>e = .returned (perV (Lb.parse s))∧Below w.heap.size w w':=by
 have hP0:=P4.new w 169 (.string ⟨#[]⟩) (.string ⟨#[]⟩) (.string ⟨#[]⟩) (.string ⟨#[]⟩)
 have hb1:=below_new w (.cells #[.string ⟨#[]⟩,.string ⟨#[]⟩,.string ⟨#[]⟩,.string ⟨#[]⟩] 169)
 have hm1:=(hb1.cell (p:=⟨2, 0,none⟩) h0).trans hm
 have HP0:=η hP0;have Hb1:=η hb1;have Hm1:=η hm1
 clear hP0 hb1 hm1
 obtain ⟨p0,hp0⟩:∃p0,(Lb.commas s)[0]? = some p0:=⟨_,List.getElem?_eq_getElem (Lb.pieces_pos _ s [])⟩
 have Hpq:=η (parse_eq s p0 hp0)
 have hl0:=comma_len s p0 0 hp0
 have hcl:=Lb.len_tot (Lb.commas s)
 have hct:=Lb.tot_pieces (fun c=>c == 44) s []
 have hcb:(Lb.commas s).length≤s.length+1:=by unfold Lb.commas at hcl ⊢;rw [hct] at hcl;simpa [Nat.add_comm] using hcl
 clear hcl hct
 obtain ⟨cs,hcs⟩:∃cs,Lb.commas s=cs:=⟨_,rfl⟩
 have Hcs:=η hcs
 rw [hcs] at hp0 hcb Hpq
 have hpos:0<cs.length:=(List.getElem?_eq_some_iff.1 hp0).1
 have hpos':(0:Int)<(cs.length:Int):=by omega
 have Hp0:=η hp0;have Hl0:=η hl0
 clear hp0 hl0 hcs hm
 obtain ⟨l,hl⟩:∃l,Lb.words p0=l:=⟨_,rfl⟩
 rw [hl] at Hpq
 have Hl:=η hl
 have hlt:=Lb.tot_words p0
 have hne:=Lb.words_ne p0
 rw [hl] at hlt hne
 have Hlt:=η (show Lb.tot l≤500001 by have:=Hl0.out;omega);have Hne:=η hne
 clear hl hlt hne
 have Hs:=η hs;have Hcb:=η hcb
 clear hs hcb
 go_enter Tryz.func137, Tryz.ntmps137
 go_upto_region 1 with fail
 obtain ⟨q,hq⟩:∃q,w.heap.size=q:=⟨_,rfl⟩
 have Hq:=η hq
 rw [hq] at HP0 ⊢
 clear hq
 generalize w.alloc (.cells #[.string ⟨#[]⟩,.string ⟨#[]⟩,.string ⟨#[]⟩,.string ⟨#[]⟩] 169)=w1 at *
 have hqlt:=HP0.out.lt
 have Hqlt:=η hqlt
 clear hqlt
 go_upto_region 2 with (go_at_call 180; refine (std_commas s m _ (by have:=Hs.out;omega) Hm1.out).mono ?_;rw [Hcs.out];rintro e w2 ⟨rfl,hS2,hb2⟩;have HS2:=η hS2;have Hb2:=η hb2;clear hS2 hb2)
 have e0:=HS2.out.cellS Hp0.out
 have e0:w2.cell? ⟨w1.heap.size,0,none⟩=some (.string ⟨p0.toArray⟩):=e0
 go_upto_region 3 with (go_at_call 138; refine (nm_Words p0 _ (by have:=Hs.out;have:=Hl0.out;omega)).mono ?_;rw [Hl.out];rintro e w3 ⟨⟨g,cap,rfl,hcp,hS3⟩,hb3⟩;have HS3:=η hS3;have Hb3:=η hb3;have Hcp:=η hcp;clear hS3 hb3 hcp)
 have hb13:=Hb2.out.trans (Hb3.out.mono Hb2.out.size)
 have HB3:=η (Hb1.out.trans (hb13.mono Hb1.out.size))
 have HP3:=η ((HP0.out.below' Hb2.out).below' Hb3.out)
 have HSc:=η (HS2.out.below' Hb3.out)
 obtain ⟨b,hb⟩:∃b,w1.heap.size=b:=⟨_,rfl⟩
 rw [hb] at HSc Hqlt ⊢
 have Hbw:=η (show b≤w3.heap.size by rw [←hb];exact hb13.size)
 have Hbw2:=η (show b≤w2.heap.size by rw [←hb];exact Hb2.out.size)
 clear e0 hb13 hb HS2 Hb2 Hb3
 by_cases h1:1<cs.length
 ·
  have h1':(1:Int)<(cs.length:Int):=by omega
  obtain ⟨p1,hp1⟩:∃p1,cs[1]? = some p1:=⟨_,List.getElem?_eq_getElem h1⟩
  have hl1:=comma_len s p1 1 (by rw [Hcs.out];exact hp1)
  have Hl1:=η hl1
  have e1:=HSc.out.cellS hp1
  have e1:w3.cell? ⟨b,1,none⟩=some (.string ⟨p1.toArray⟩):=by simpa using e1
  have Hp1:=η hp1
  have hgd1:=getD_some cs 1 p1 hp1
  rw [if_pos h1,hgd1] at Hpq
  have Htw1:=η (Lb.tot_words p1)
  clear hp1 hl1 hgd1 h1
  go_upto_region 5 with (first
   | (go_at_call 138; refine (nm_Words p1 _ (by have:=Hs.out;have:=Hl1.out;omega)).mono ?_;rintro e w4 ⟨⟨g4,cap4,rfl,hcp,hS4⟩,hb4⟩;have HS4:=η hS4;have Hb4:=η hb4;clear hS4 hb4 hcp)
   | (go_at_call 140; refine (nm_join _ _ _ _ HS4.out (by have:=Hs.out;have:=Hl1.out;have:=Htw1.out;omega)).mono ?_;rintro e w5 ⟨rfl,hb5⟩;have Hb5:=η hb5;clear hb5))
  obtain ⟨j1,hj1⟩:∃j1,Lb.join (Lb.words p1)=j1:=⟨_,rfl⟩
  rw [hj1] at Hpq ⊢
  have hP6:PSt w (w5.alloc (.cells #[.string ⟨j1.toArray⟩,.string ⟨#[]⟩,.string ⟨#[]⟩,.string ⟨#[]⟩] 169)) w5.heap.size q (.string ⟨j1.toArray⟩) (.string ⟨#[]⟩) (.string ⟨#[]⟩) (.string ⟨#[]⟩) (.slice (some ⟨g,0,none⟩) l.length cap) l:=by
   have hb35:Below w3.heap.size w3 w5:=Hb4.out.trans (Hb5.out.mono Hb4.out.size)
   have hb36:Below w3.heap.size w3 (w5.alloc (.cells #[.string ⟨j1.toArray⟩,.string ⟨#[]⟩,.string ⟨#[]⟩,.string ⟨#[]⟩] 169)):=hb35.trans ((below_new w5 _).mono hb35.size)
   refine ⟨P4.new _ _ _ _ _ _,HP3.out.below' hb36,(HS3.out.strong.below' hb36).kept (fun j h=>Nat.lt_of_lt_of_le h.2 hb35.size) (Nat.le_refl _) (fun _ _ _=>rfl) (fun _ _ _ h=>h),HB3.out.trans (hb36.mono HB3.out.size),Nat.lt_of_lt_of_le Hqlt.out (Nat.le_trans Hbw.out hb35.size),Nat.le_of_eq Hq.out⟩
  have HSc6:=η ((HSc.out.below' Hb4.out).below' Hb5.out |>.below' (below_new w5 (.cells #[.string ⟨j1.toArray⟩,.string ⟨#[]⟩,.string ⟨#[]⟩,.string ⟨#[]⟩] 169)))
  have Hb6:=η (show b<w5.heap.size from Nat.lt_of_lt_of_le (by
   obtain ⟨p9,c9,e9,_,_,hat9⟩:=HSc.out
   obtain ⟨b9,o9,v9,hp9,_,hlt9,_⟩:=hat9 0 p0 Hp0.out
   simp only [Value.slice.injEq] at e9
   rw [hp9] at e9
   simp only [Option.some.injEq,Addr.mk.injEq] at e9
   omega) (Hb4.out.trans (Hb5.out.mono Hb4.out.size)).size)
  have HP6:=η hP6
  have Hlp:=η (show j1.length≤500001 by
   have h1:=Lb.join_le (Lb.words p1)
   rw [hj1] at h1
   have:=Htw1.out;have:=Hl1.out;have:=Hs.out
   omega)
  generalize w5.heap.size=g5 at *
  generalize w5.alloc (.cells #[.string ⟨j1.toArray⟩,.string ⟨#[]⟩,.string ⟨#[]⟩,.string ⟨#[]⟩] 169)=w6 at *
  clear e1 hj1 hP6 Hb4 Hb5 HP3 HS3 HSc HS4
  by_cases h2:2<cs.length
  ·
   have h2':(2:Int)<(cs.length:Int):=by omega
   obtain ⟨p2,hp2⟩:∃p2,cs[2]? = some p2:=⟨_,List.getElem?_eq_getElem h2⟩
   have Hl2:=η (comma_len s p2 2 (by rw [Hcs.out];exact hp2))
   have e2:=HSc6.out.cellS hp2
   have e2:w6.cell? ⟨b,2,none⟩=some (.string ⟨p2.toArray⟩):=by simpa using e2
   rw [if_pos h2,getD_some cs 2 p2 hp2] at Hpq
   have Htw2:=η (Lb.tot_words p2)
   have hblt:b<w6.heap.size:=Nat.lt_trans Hb6.out HP6.out.p.lt
   clear hp2 h2
   go_upto_region 6 with fail
   refine wp_region_any (by kernel_rfl) ?_
   change wpAny _ _ _ _ _ _ _ (World.drew _)
   have HPd:=η HP6.out.drew
   have hS:(fun W:World=>W.cell? ⟨b,2,none⟩=some (.string ⟨p2.toArray⟩)) w6.drew:=e2
   dsimp only at hS
   have hbd:b<w6.drew.heap.size:=hblt
   clear e2 hblt HP6 HSc6
   generalize w6.drew=wd at *
   refine wpAny_of_held (S:=fun W=>W.cell? ⟨b,2,none⟩=some (.string ⟨p2.toArray⟩)) _ _ _ _ ?_
   refine tk 0 (.pointer (some ⟨g5,0,none⟩)) rfl (hy:=fun W hW=>by go_simp) (h:=?_)
   refine tk 2 (.slice (some ⟨b,0,none⟩) cs.length cs.length) rfl (h:=?_)
   refine tk 3 (.pointer (some ⟨b,2,none⟩)) rfl (hy:=fun W hW=>by go_simp) (h:=?_)
   refine tk 4 (.string ⟨p2.toArray⟩) rfl (hy:=fun W hW=>by go_simp) (h:=?_)
   try simp only [Act.put,π1,π2,π3,π4,π5,π6]
   refine wpAnyH_ready (rs:=[1,5]) (by kernel_rfl) (by simp) ?_
   refine AllReadyH.cons rfl (fun K hK=>?_) (AllReadyH.cons rfl (fun K hK=>?_) AllReadyH.nil)
   ·
    have c0:=HPd.out.p.c0
    go_simp
    refine hK.out _ _ hS (fun _=>?_)
    clear K hK c0
    refine tk 7 (.pointer (some ⟨g5,3,none⟩)) rfl (hy:=fun W hW=>by go_simp) (h:=?_)
    try simp only [Act.put,π1,π2,π3,π4,π5,π6]
    refine tr 5 rfl (h:=fun K hK=>?_)
    go_simp
    go_wp2_with (go_at_call 138; refine (nm_Words p2 _ (by have:=Hs.out;have:=Hl2.out;omega)).mono ?_;rintro e w7 ⟨⟨g7,cap7,rfl,hcp,hS7⟩,hb7⟩;have HS7:=η hS7;have Hb7:=η hb7;clear hS7 hb7 hcp)
    have HP_w7:=η (HPd.out.below Hb7.out)
    have hS_w7:=(Hb7.out.cell (p:=⟨b,2,none⟩) hbd).trans hS
    have hb_w7:b<w7.heap.size:=Nat.lt_of_lt_of_le hbd Hb7.out.size
    refine hK.out _ _ hS_w7 (fun _=>?_)
    clear K hK
    try simp only [Act.put,π1,π2,π3,π4,π5,π6]
    refine tr 6 rfl (h:=fun K hK=>?_)
    go_simp
    go_wp2_with (go_at_call 140; refine (nm_join _ _ _ _ HS7.out (by have:=Hs.out;have:=Hl2.out;have:=Htw2.out;omega)).mono ?_;rintro e w8 ⟨rfl,hb8⟩;have Hb8:=η hb8;clear hb8)
    have HP_w8:=η (HP_w7.out.below Hb8.out)
    have hS_w8:=(Hb8.out.cell (p:=⟨b,2,none⟩) hb_w7).trans hS_w7
    refine hK.out _ _ hS_w8 (fun _=>?_)
    clear K hK
    try simp only [Act.put,π1,π2,π3,π4,π5,π6]
    refine tr 8 rfl (h:=fun K hK=>?_)
    have f3:=HP_w8.out.p.f 3;have c3:=HP_w8.out.p.c3
    go_simp
    have hS9:(w8.setCell ⟨g5,3,none⟩ (.string ⟨j1.toArray⟩)).cell? ⟨b,2,none⟩=some (.string ⟨p2.toArray⟩):=(World.cell?_setCell_other _ _ _ _ (fun e=>by injection e with e;have:=Hb6.out;omega)).trans hS_w8
    have HP9:=η (HP_w8.out.set 3 _ (HP_w8.out.p.set3 (.string ⟨j1.toArray⟩)))
    refine hK.out _ _ hS9 (fun _=>?_)
    clear K hK f3 c3
    refine tk 9 (.pointer (some ⟨g5,0,none⟩)) rfl (hy:=fun W hW=>by go_simp) (h:=?_)
    try simp only [Act.put,π1,π2,π3,π4,π5,π6]
    refine tr 10 rfl (h:=fun K hK=>?_)
    have f0:=HP9.out.p.f 0;have c0:=HP9.out.p.c0
    go_simp
    have hS10:((w8.setCell ⟨g5,3,none⟩ (.string ⟨j1.toArray⟩)).setCell ⟨g5,0,none⟩ (.string ⟨(Lb.join (Lb.words p2)).toArray⟩)).cell? ⟨b,2,none⟩=some (.string ⟨p2.toArray⟩):=(World.cell?_setCell_other _ _ _ _ (fun e=>by injection e with e;have:=Hb6.out;omega)).trans hS9
    have HPx:=η (HP9.out.set 0 _ (HP9.out.p.set0 (.string ⟨(Lb.join (Lb.words p2)).toArray⟩)))
    refine hK.out _ _ hS10 (fun _=>?_)
    clear K hK f0 c0 hS9 hS10 HP9
    try simp only [Act.put,π1,π2,π3,π4,π5,π6]
    refine wpAnyH_done (by kernel_rfl) ?_ _
    go_upto_region 8 with (go_at_call 181; refine (nm_vonLast l g 0 cap _ _ HPx.out.s Hcp.out Hne.out (by have:=Hlt.out;omega)).mono ?_;rintro e w9 ⟨rfl,hb9⟩;have HPy:=η (HPx.out.below hb9);clear hb9;have f1:=HPy.out.p.f 1;have f2:=HPy.out.p.f 2;have d1:=HPy.out.p.c1;have d2:=HPy.out.p.c2)
    have hPz:=(HPy.out.set 1 _ (HPy.out.p.set1 (.string ⟨(Lb.join (l.take (Lb.lastN l))).toArray⟩)))
    have HPz:=η (hPz.set 2 _ (hPz.p.set2 (.string ⟨(Lb.join (l.drop (Lb.lastN l))).toArray⟩)))
    clear hPz f1 f2 d1 d2 HPy HPx
    generalize (w9.setCell ⟨g5,1,none⟩ (.string ⟨(Lb.join (l.take (Lb.lastN l))).toArray⟩)).setCell ⟨g5,2,none⟩ (.string ⟨(Lb.join (l.drop (Lb.lastN l))).toArray⟩)=wz at *
    have c0:=HPz.out.p.c0;have c1:=HPz.out.p.c1;have c2:=HPz.out.p.c2;have c3:=HPz.out.p.c3
    have r0:=HPz.out.r.f 0;have r1:=HPz.out.r.f 1;have r2:=HPz.out.r.f 2;have r3:=HPz.out.r.f 3;have k0:=HPz.out.r.c0;have k1:=HPz.out.r.c1;have k2:=HPz.out.r.c2;have k3:=HPz.out.r.c3
    go_wp2_with fail
    have hF:=HPz.out.r.all (.string ⟨(Lb.join (Lb.words p2)).toArray⟩) (.string ⟨(Lb.join (l.take (Lb.lastN l))).toArray⟩) (.string ⟨(Lb.join (l.drop (Lb.lastN l))).toArray⟩) (.string ⟨j1.toArray⟩)
    refine ret_one rfl rfl (load_per _ _ _ _ _ _ hF.c0 hF.c1 hF.c2 hF.c3) rfl ⟨?_,below4 HPz.out.h HPz.out.hw _ _ _ _⟩
    rw [Hpq.out];rfl
   ·
    go_simp
    go_wp2_with (go_at_call 138; refine (nm_Words p2 _ (by have:=Hs.out;have:=Hl2.out;omega)).mono ?_;rintro e w7 ⟨⟨g7,cap7,rfl,hcp,hS7⟩,hb7⟩;have HS7:=η hS7;have Hb7:=η hb7;clear hS7 hb7 hcp)
    have HP_w7:=η (HPd.out.below Hb7.out)
    have hS_w7:=(Hb7.out.cell (p:=⟨b,2,none⟩) hbd).trans hS
    have hb_w7:b<w7.heap.size:=Nat.lt_of_lt_of_le hbd Hb7.out.size
    refine hK.out _ _ hS_w7 (fun _=>?_)
    clear K hK
    try simp only [Act.put,π1,π2,π3,π4,π5,π6]
    refine wpAnyH_ready (rs:=[1,6]) (by kernel_rfl) (by simp) ?_
    refine AllReadyH.cons rfl (fun K hK=>?_) (AllReadyH.cons rfl (fun K hK=>?_) AllReadyH.nil)
    ·
     have c0:=HP_w7.out.p.c0
     go_simp
     refine hK.out _ _ hS_w7 (fun _=>?_)
     clear K hK c0
     refine tk 7 (.pointer (some ⟨g5,3,none⟩)) rfl (hy:=fun W hW=>by go_simp) (h:=?_)
     try simp only [Act.put,π1,π2,π3,π4,π5,π6]
     refine tr 6 rfl (h:=fun K hK=>?_)
     go_simp
     go_wp2_with (go_at_call 140; refine (nm_join _ _ _ _ HS7.out (by have:=Hs.out;have:=Hl2.out;have:=Htw2.out;omega)).mono ?_;rintro e w8 ⟨rfl,hb8⟩;have Hb8:=η hb8;clear hb8)
     have HP_w8:=η (HP_w7.out.below Hb8.out)
     have hS_w8:=(Hb8.out.cell (p:=⟨b,2,none⟩) hb_w7).trans hS_w7
     refine hK.out _ _ hS_w8 (fun _=>?_)
     clear K hK
     try simp only [Act.put,π1,π2,π3,π4,π5,π6]
     refine tr 8 rfl (h:=fun K hK=>?_)
     have f3:=HP_w8.out.p.f 3;have c3:=HP_w8.out.p.c3
     go_simp
     have hS9:(w8.setCell ⟨g5,3,none⟩ (.string ⟨j1.toArray⟩)).cell? ⟨b,2,none⟩=some (.string ⟨p2.toArray⟩):=(World.cell?_setCell_other _ _ _ _ (fun e=>by injection e with e;have:=Hb6.out;omega)).trans hS_w8
     have HP9:=η (HP_w8.out.set 3 _ (HP_w8.out.p.set3 (.string ⟨j1.toArray⟩)))
     refine hK.out _ _ hS9 (fun _=>?_)
     clear K hK f3 c3
     refine tk 9 (.pointer (some ⟨g5,0,none⟩)) rfl (hy:=fun W hW=>by go_simp) (h:=?_)
     try simp only [Act.put,π1,π2,π3,π4,π5,π6]
     refine tr 10 rfl (h:=fun K hK=>?_)
     have f0:=HP9.out.p.f 0;have c0:=HP9.out.p.c0
     go_simp
     have hS10:((w8.setCell ⟨g5,3,none⟩ (.string ⟨j1.toArray⟩)).setCell ⟨g5,0,none⟩ (.string ⟨(Lb.join (Lb.words p2)).toArray⟩)).cell? ⟨b,2,none⟩=some (.string ⟨p2.toArray⟩):=(World.cell?_setCell_other _ _ _ _ (fun e=>by injection e with e;have:=Hb6.out;omega)).trans hS9
     have HPx:=η (HP9.out.set 0 _ (HP9.out.p.set0 (.string ⟨(Lb.join (Lb.words p2)).toArray⟩)))
     refine hK.out _ _ hS10 (fun _=>?_)
     clear K hK f0 c0 hS9 hS10 HP9
     try simp only [Act.put,π1,π2,π3,π4,π5,π6]
     refine wpAnyH_done (by kernel_rfl) ?_ _
     go_upto_region 8 with (go_at_call 181; refine (nm_vonLast l g 0 cap _ _ HPx.out.s Hcp.out Hne.out (by have:=Hlt.out;omega)).mono ?_;rintro e w9 ⟨rfl,hb9⟩;have HPy:=η (HPx.out.below hb9);clear hb9;have f1:=HPy.out.p.f 1;have f2:=HPy.out.p.f 2;have d1:=HPy.out.p.c1;have d2:=HPy.out.p.c2)
     have hPz:=(HPy.out.set 1 _ (HPy.out.p.set1 (.string ⟨(Lb.join (l.take (Lb.lastN l))).toArray⟩)))
     have HPz:=η (hPz.set 2 _ (hPz.p.set2 (.string ⟨(Lb.join (l.drop (Lb.lastN l))).toArray⟩)))
     clear hPz f1 f2 d1 d2 HPy HPx
     generalize (w9.setCell ⟨g5,1,none⟩ (.string ⟨(Lb.join (l.take (Lb.lastN l))).toArray⟩)).setCell ⟨g5,2,none⟩ (.string ⟨(Lb.join (l.drop (Lb.lastN l))).toArray⟩)=wz at *
     have c0:=HPz.out.p.c0;have c1:=HPz.out.p.c1;have c2:=HPz.out.p.c2;have c3:=HPz.out.p.c3
     have r0:=HPz.out.r.f 0;have r1:=HPz.out.r.f 1;have r2:=HPz.out.r.f 2;have r3:=HPz.out.r.f 3;have k0:=HPz.out.r.c0;have k1:=HPz.out.r.c1;have k2:=HPz.out.r.c2;have k3:=HPz.out.r.c3
     go_wp2_with fail
     have hF:=HPz.out.r.all (.string ⟨(Lb.join (Lb.words p2)).toArray⟩) (.string ⟨(Lb.join (l.take (Lb.lastN l))).toArray⟩) (.string ⟨(Lb.join (l.drop (Lb.lastN l))).toArray⟩) (.string ⟨j1.toArray⟩)
     refine ret_one rfl rfl (load_per _ _ _ _ _ _ hF.c0 hF.c1 hF.c2 hF.c3) rfl ⟨?_,below4 HPz.out.h HPz.out.hw _ _ _ _⟩
     rw [Hpq.out];rfl
    ·
     go_simp
     go_wp2_with (go_at_call 140; refine (nm_join _ _ _ _ HS7.out (by have:=Hs.out;have:=Hl2.out;have:=Htw2.out;omega)).mono ?_;rintro e w8 ⟨rfl,hb8⟩;have Hb8:=η hb8;clear hb8)
     have HP_w8:=η (HP_w7.out.below Hb8.out)
     have hS_w8:=(Hb8.out.cell (p:=⟨b,2,none⟩) hb_w7).trans hS_w7
     refine hK.out _ _ hS_w8 (fun _=>?_)
     clear K hK
     try simp only [Act.put,π1,π2,π3,π4,π5,π6]
     refine tr 1 rfl (h:=fun K hK=>?_)
     have c0:=HP_w8.out.p.c0
     go_simp
     refine hK.out _ _ hS_w8 (fun _=>?_)
     clear K hK c0
     refine tk 7 (.pointer (some ⟨g5,3,none⟩)) rfl (hy:=fun W hW=>by go_simp) (h:=?_)
     try simp only [Act.put,π1,π2,π3,π4,π5,π6]
     refine tr 8 rfl (h:=fun K hK=>?_)
     have f3:=HP_w8.out.p.f 3;have c3:=HP_w8.out.p.c3
     go_simp
     have hS9:(w8.setCell ⟨g5,3,none⟩ (.string ⟨j1.toArray⟩)).cell? ⟨b,2,none⟩=some (.string ⟨p2.toArray⟩):=(World.cell?_setCell_other _ _ _ _ (fun e=>by injection e with e;have:=Hb6.out;omega)).trans hS_w8
     have HP9:=η (HP_w8.out.set 3 _ (HP_w8.out.p.set3 (.string ⟨j1.toArray⟩)))
     refine hK.out _ _ hS9 (fun _=>?_)
     clear K hK f3 c3
     refine tk 9 (.pointer (some ⟨g5,0,none⟩)) rfl (hy:=fun W hW=>by go_simp) (h:=?_)
     try simp only [Act.put,π1,π2,π3,π4,π5,π6]
     refine tr 10 rfl (h:=fun K hK=>?_)
     have f0:=HP9.out.p.f 0;have c0:=HP9.out.p.c0
     go_simp
     have hS10:((w8.setCell ⟨g5,3,none⟩ (.string ⟨j1.toArray⟩)).setCell ⟨g5,0,none⟩ (.string ⟨(Lb.join (Lb.words p2)).toArray⟩)).cell? ⟨b,2,none⟩=some (.string ⟨p2.toArray⟩):=(World.cell?_setCell_other _ _ _ _ (fun e=>by injection e with e;have:=Hb6.out;omega)).trans hS9
     have HPx:=η (HP9.out.set 0 _ (HP9.out.p.set0 (.string ⟨(Lb.join (Lb.words p2)).toArray⟩)))
     refine hK.out _ _ hS10 (fun _=>?_)
     clear K hK f0 c0 hS9 hS10 HP9
     try simp only [Act.put,π1,π2,π3,π4,π5,π6]
     refine wpAnyH_done (by kernel_rfl) ?_ _
     go_upto_region 8 with (go_at_call 181; refine (nm_vonLast l g 0 cap _ _ HPx.out.s Hcp.out Hne.out (by have:=Hlt.out;omega)).mono ?_;rintro e w9 ⟨rfl,hb9⟩;have HPy:=η (HPx.out.below hb9);clear hb9;have f1:=HPy.out.p.f 1;have f2:=HPy.out.p.f 2;have d1:=HPy.out.p.c1;have d2:=HPy.out.p.c2)
     have hPz:=(HPy.out.set 1 _ (HPy.out.p.set1 (.string ⟨(Lb.join (l.take (Lb.lastN l))).toArray⟩)))
     have HPz:=η (hPz.set 2 _ (hPz.p.set2 (.string ⟨(Lb.join (l.drop (Lb.lastN l))).toArray⟩)))
     clear hPz f1 f2 d1 d2 HPy HPx
     generalize (w9.setCell ⟨g5,1,none⟩ (.string ⟨(Lb.join (l.take (Lb.lastN l))).toArray⟩)).setCell ⟨g5,2,none⟩ (.string ⟨(Lb.join (l.drop (Lb.lastN l))).toArray⟩)=wz at *
     have c0:=HPz.out.p.c0;have c1:=HPz.out.p.c1;have c2:=HPz.out.p.c2;have c3:=HPz.out.p.c3
     have r0:=HPz.out.r.f 0;have r1:=HPz.out.r.f 1;have r2:=HPz.out.r.f 2;have r3:=HPz.out.r.f 3;have k0:=HPz.out.r.c0;have k1:=HPz.out.r.c1;have k2:=HPz.out.r.c2;have k3:=HPz.out.r.c3
     go_wp2_with fail
     have hF:=HPz.out.r.all (.string ⟨(Lb.join (Lb.words p2)).toArray⟩) (.string ⟨(Lb.join (l.take (Lb.lastN l))).toArray⟩) (.string ⟨(Lb.join (l.drop (Lb.lastN l))).toArray⟩) (.string ⟨j1.toArray⟩)
     refine ret_one rfl rfl (load_per _ _ _ _ _ _ hF.c0 hF.c1 hF.c2 hF.c3) rfl ⟨?_,below4 HPz.out.h HPz.out.hw _ _ _ _⟩
     rw [Hpq.out];rfl
  ·
   have h2':¬(2:Int)<(cs.length:Int):=by omega
   rw [if_neg h2] at Hpq
   clear h2
   have HPx:=HP6
   go_upto_region 8 with (go_at_call 181; refine (nm_vonLast l g 0 cap _ _ HPx.out.s Hcp.out Hne.out (by have:=Hlt.out;omega)).mono ?_;rintro e w9 ⟨rfl,hb9⟩;have HPy:=η (HPx.out.below hb9);clear hb9;have f1:=HPy.out.p.f 1;have f2:=HPy.out.p.f 2;have d1:=HPy.out.p.c1;have d2:=HPy.out.p.c2)
   have hPz:=(HPy.out.set 1 _ (HPy.out.p.set1 (.string ⟨(Lb.join (l.take (Lb.lastN l))).toArray⟩)))
   have HPz:=η (hPz.set 2 _ (hPz.p.set2 (.string ⟨(Lb.join (l.drop (Lb.lastN l))).toArray⟩)))
   clear hPz f1 f2 d1 d2 HPy HPx
   generalize (w9.setCell ⟨g5,1,none⟩ (.string ⟨(Lb.join (l.take (Lb.lastN l))).toArray⟩)).setCell ⟨g5,2,none⟩ (.string ⟨(Lb.join (l.drop (Lb.lastN l))).toArray⟩)=wz at *
   have c0:=HPz.out.p.c0;have c1:=HPz.out.p.c1;have c2:=HPz.out.p.c2;have c3:=HPz.out.p.c3
   have r0:=HPz.out.r.f 0;have r1:=HPz.out.r.f 1;have r2:=HPz.out.r.f 2;have r3:=HPz.out.r.f 3;have k0:=HPz.out.r.c0;have k1:=HPz.out.r.c1;have k2:=HPz.out.r.c2;have k3:=HPz.out.r.c3
   go_wp2_with fail
   have hF:=HPz.out.r.all (.string ⟨j1.toArray⟩) (.string ⟨(Lb.join (l.take (Lb.lastN l))).toArray⟩) (.string ⟨(Lb.join (l.drop (Lb.lastN l))).toArray⟩) (.string ⟨#[]⟩)
   refine ret_one rfl rfl (load_per _ _ _ _ _ _ hF.c0 hF.c1 hF.c2 hF.c3) rfl ⟨?_,below4 HPz.out.h HPz.out.hw _ _ _ _⟩
   rw [Hpq.out];rfl
 ·
  have h1':¬(1:Int)<(cs.length:Int):=by omega
  rw [if_neg h1] at Hpq
  clear h1
  by_cases hn:l=[]
  ·
   subst hn
   have r0:=HP3.out.f 0;have r1:=HP3.out.f 1;have r2:=HP3.out.f 2;have r3:=HP3.out.f 3;have k0:=HP3.out.c0;have k1:=HP3.out.c1;have k2:=HP3.out.c2;have k3:=HP3.out.c3
   go_wp2_with fail
   have hF:=HP3.out.all (.string ⟨#[]⟩) (.string ⟨#[]⟩) (.string ⟨#[]⟩) (.string ⟨#[]⟩)
   refine ret_one rfl rfl (load_per _ _ _ _ _ _ hF.c0 hF.c1 hF.c2 hF.c3) rfl ⟨?_,below4 HB3.out (Nat.le_of_eq Hq.out) _ _ _ _⟩
   rw [Hpq.out];rfl
  ·
   have hie:l.isEmpty=false:=by cases l with | nil=>exact absurd rfl hn | cons _ _=>rfl
   rw [hie,if_neg (by simp)] at Hpq
   obtain ⟨k,hk⟩:∃k,l.length=k+1:=⟨l.length - 1,by have:=List.length_pos_iff.2 hn;omega⟩
   have hlc:l.length≤cap∧cap≤9223372036854775807:=by
    obtain ⟨p3,c3,e3,h3,h4,_⟩:=HS3.out
    simp only [Value.slice.injEq] at e3
    unfold maxLen at h4;omega
   have hz:((l.length:Int) == 0)=false:=by rw [beq_eq_false_iff_ne];omega
   have hnl:=Lb.lastN_le l
   have Hn:=η hn
   have Hk:=η hk
   obtain ⟨n,hnn⟩:∃n,Lb.lastN l=n:=⟨_,rfl⟩
   rw [hnn] at Hpq hnl
   have Hnn:=η hnn
   clear hn hie hnn
   have hkl:(k:Int)+1=(l.length:Int):=by omega
   have hwk:IntKind.i64.wrap ((l.length:Int) - 1)=(k:Int):=by rw [IntWalk.i64_in _ (by omega)];omega
   have q1:(k:Int)≤(cap:Int):=by omega
   have q2:(k:Int)<(l.length:Int):=by omega
   have q4:(n:Int)≤(l.length:Int):=by omega
   have q5:(n:Int)≤(cap:Int):=by omega
   have q6:¬cap=n:=by omega
   have q7:(l.length:Int)≤(cap:Int):=by omega
   have Hlc:=η hlc;have Hnl:=η hnl
   obtain ⟨x,hx⟩:∃x,l[k]? = some x:=⟨_,List.getElem?_eq_getElem (by omega)⟩
   have e1:=HS3.out.cellS hx
   have e1:w3.cell? ⟨g,k,none⟩=some (.string ⟨x.toArray⟩):=by simpa using e1
   have hgl:g<w3.heap.size:=by
    obtain ⟨p9,c9,e9,_,_,hat9⟩:=HS3.out
    obtain ⟨b9,o9,v9,hp9,_,hlt9,_⟩:=hat9 k x hx
    simp only [Value.slice.injEq] at e9
    rw [hp9] at e9
    simp only [Option.some.injEq,Addr.mk.injEq] at e9
    omega
   have hgq:q<g:=by
    obtain ⟨p9,c9,e9,_,_,hat9⟩:=HS3.out
    obtain ⟨b9,o9,v9,hp9,hS9,hlt9,_⟩:=hat9 k x hx
    simp only [Value.slice.injEq] at e9
    rw [hp9] at e9
    simp only [Option.some.injEq,Addr.mk.injEq] at e9
    have:=Hbw2.out;have:=Hqlt.out
    omega
   have Hx:=η hx;have Hgl:=η hgl;have Hgq:=η hgq
   clear hx hlc hnl hk hkl hgl hgq
   by_cases hn0:n=0
   ·
    have hn0':((n:Int) == 0)=true:=by rw [hn0];rfl
    rw [if_pos hn0] at Hpq
    have Hn0:=η hn0
    have hgd:=η (getD_some l k x Hx.out)
    rw [show l.length - 1=k by have:=Hk.out;omega,hgd.out] at Hpq
    clear hn0
    go_upto_region 13 with (go_at_call 182; refine (nm_last l _ _ _ HS3.out Hne.out).mono ?_;rw [Hnn.out];rintro e w9 ⟨rfl,rfl⟩)
    refine wp_region_any (by kernel_rfl) ?_
    change wpAny _ _ _ _ _ _ _ (World.drew _)
    have hS:(fun W:World=>W.cell? ⟨g,k,none⟩=some (.string ⟨x.toArray⟩)) w3.drew:=e1
    dsimp only at hS
    have HPd:=η HP3.out.drew;have HSd:=η (HS3.out.below' (Below.refl _ _).drew);have HBd:=η HB3.out.drew
    have Hgd2:=η (show g<w3.drew.heap.size from Hgl.out)
    clear e1 HP3 HS3 HB3 Hgl
    generalize w3.drew=wd at *
    refine wpAny_of_held (S:=fun W=>W.cell? ⟨g,k,none⟩=some (.string ⟨x.toArray⟩)) _ _ _ _ ?_
    refine tk 0 (.slice (some ⟨g,0,none⟩) l.length cap) rfl (h:=?_)
    refine tk 1 (.slice (some ⟨g,0,none⟩) l.length cap) rfl (h:=?_)
    refine tk 2 (.int .i64 (l.length:Int)) rfl (hy:=fun W hW=>by go_simp) (h:=?_)
    refine tk 3 (.int .i64 (k:Int)) rfl (hy:=fun W hW=>by go_simp) (h:=?_)
    refine tk 4 (.slice (some ⟨g,0,none⟩) k cap) rfl (hy:=fun W hW=>by go_simp) (h:=?_)
    refine tk 6 (.slice (some ⟨g,0,none⟩) l.length cap) rfl (h:=?_)
    refine tk 7 (.slice (some ⟨g,0,none⟩) l.length cap) rfl (h:=?_)
    refine tk 8 (.int .i64 (l.length:Int)) rfl (hy:=fun W hW=>by go_simp) (h:=?_)
    refine tk 9 (.int .i64 (k:Int)) rfl (hy:=fun W hW=>by go_simp) (h:=?_)
    refine tk 10 (.pointer (some ⟨g,k,none⟩)) rfl (hy:=fun W hW=>by go_simp) (h:=?_)
    refine tk 11 (.string ⟨x.toArray⟩) rfl (hy:=fun W hW=>by go_simp) (h:=?_)
    try simp only [Act.put,π1,π2,π3,π4,π5,π6]
    refine tr 5 rfl (h:=fun K hK=>?_)
    go_simp
    go_wp2_with (go_at_call 140; refine (nm_join (l.take k) _ _ _ (HSd.out.pre k (by have:=Hk.out;omega)) (by have:=Hlt.out;have:=Lb.tot_take l k;omega)).mono ?_;rintro e w8 ⟨rfl,hb8⟩;have Hb8:=η hb8;clear hb8)
    have hS8:=(Hb8.out.cell (p:=⟨g,k,none⟩) Hgd2.out).trans hS
    have HP8:=η (HPd.out.below' Hb8.out);have HB8:=η (HBd.out.trans (Hb8.out.mono HBd.out.size))
    refine hK.out _ _ hS8 (fun _=>?_)
    clear K hK
    refine tk 12 (.agg #[.string ⟨(Lb.join (l.take k)).toArray⟩,.string ⟨#[]⟩,.string ⟨x.toArray⟩,.string ⟨#[]⟩]) rfl (h:=?_)
    try simp only [Act.put,π1,π2,π3,π4,π5,π6]
    refine tr 13 rfl (h:=fun K hK=>?_)
    have r0:=HP8.out.f 0;have r1:=HP8.out.f 1;have r2:=HP8.out.f 2;have r3:=HP8.out.f 3;have c0:=HP8.out.c0;have c1:=HP8.out.c1;have c2:=HP8.out.c2;have c3:=HP8.out.c3
    go_simp
    refine hK.out _ _ ((cell4_other _ q g k _ _ _ _ (Nat.ne_of_lt Hgq.out)).trans hS8) (fun _=>?_)
    clear K hK r0 r1 r2 r3 c0 c1 c2 c3
    try simp only [Act.put,π1,π2,π3,π4,π5,π6]
    refine wpAnyH_done (by kernel_rfl) ?_ _
    go_wp2_with fail
    have hF:=HP8.out.all (.string ⟨(Lb.join (l.take k)).toArray⟩) (.string ⟨#[]⟩) (.string ⟨x.toArray⟩) (.string ⟨#[]⟩)
    refine ret_one rfl rfl (load_per _ _ _ _ _ _ hF.c0 hF.c1 hF.c2 hF.c3) rfl ⟨?_,below4 HB8.out (Nat.le_of_eq Hq.out) _ _ _ _⟩
    rw [Hpq.out];rfl
   ·
    have hn0':((n:Int) == 0)=false:=by rw [beq_eq_false_iff_ne];omega
    rw [if_neg hn0] at Hpq
    have hfl:=Lb.find_last l (by rw [Hnn.out];exact hn0)
    obtain ⟨f,hf⟩:∃f,l.findIdx Lb.smallW=f:=⟨_,rfl⟩
    rw [Hnn.out,hf] at hfl
    have hix:ixP Lb.smallW l=(f:Int):=by unfold ixP;rw [if_pos hfl.1,hf]
    rw [hf] at Hpq
    have Hix:=η hix
    have q8:(f:Int)≤(n:Int):=by omega
    have q9:(f:Int)≤(cap:Int):=by omega
    have q10:¬cap=f:=by have:=Hlc.out;have:=Hnl.out;have:=Hk.out;omega
    have Hfn:=η hfl.2
    clear hn0 hfl hf hix e1
    go_upto_region 15 with (first
     | (go_at_call 182; refine (nm_last l _ _ _ HS3.out Hne.out).mono ?_;rw [Hnn.out];rintro e w9 ⟨rfl,rfl⟩)
     | (go_at_call 183; refine (nm_ix_small l _ _ _ HS3.out Hne.out).mono ?_;rw [Hix.out];rintro e w9 ⟨rfl,rfl⟩))
    refine wp_region_any (by kernel_rfl) ?_
    change wpAny _ _ _ _ _ _ _ (World.drew _)
    have hS:(fun W:World=>True) w3.drew:=trivial
    dsimp only at hS
    have HPd:=η HP3.out.drew;have HSd:=η (HS3.out.below' (Below.refl _ _).drew);have HBd:=η HB3.out.drew
    clear HP3 HS3 HB3 Hgl
    generalize w3.drew=wd at *
    refine wpAny_of_held (S:=fun W=>True) _ _ _ _ ?_
    refine tk 0 (.slice (some ⟨g,0,none⟩) l.length cap) rfl (h:=?_)
    refine tk 1 (.int .i64 (f:Int)) rfl (h:=?_)
    refine tk 2 (.slice (some ⟨g,0,none⟩) f cap) rfl (hy:=fun W hW=>by go_simp) (h:=?_)
    refine tk 4 (.slice (some ⟨g,0,none⟩) l.length cap) rfl (h:=?_)
    refine tk 5 (.int .i64 (f:Int)) rfl (h:=?_)
    refine tk 6 (.int .i64 (n:Int)) rfl (h:=?_)
    refine tk 7 (.slice (some ⟨g,f,none⟩) (n - f) (cap - f)) rfl (hy:=fun W hW=>by go_simp) (h:=?_)
    refine tk 9 (.slice (some ⟨g,0,none⟩) l.length cap) rfl (h:=?_)
    refine tk 10 (.int .i64 (n:Int)) rfl (h:=?_)
    refine tk 11 (.slice (some ⟨g,n,none⟩) (l.length - n) (cap - n)) rfl (hy:=fun W hW=>by go_simp) (h:=?_)
    try simp only [Act.put,π1,π2,π3,π4,π5,π6]
    refine tr 3 rfl (h:=fun K hK=>?_)
    go_simp
    go_wp2_with (go_at_call 140; refine (nm_join (l.take f) _ _ _ (HSd.out.pre f (by have:=Hfn.out;have:=Hnl.out;omega)) (by have:=Hlt.out;have:=Lb.tot_take l f;omega)).mono ?_;rintro e w7 ⟨rfl,hb8⟩;have Hb7:=η hb8;clear hb8)
    have HP7:=η (HPd.out.below' Hb7.out);have HB7:=η (HBd.out.trans (Hb7.out.mono HBd.out.size));have HS7:=η (HSd.out.below' Hb7.out)
    refine hK.out _ _ trivial (fun _=>?_)
    clear K hK
    try simp only [Act.put,π1,π2,π3,π4,π5,π6]
    refine tr 8 rfl (h:=fun K hK=>?_)
    go_simp
    go_wp2_with (go_at_call 140; refine (nm_join ((l.take n).drop f) _ _ _ ((by have h:=((HS7.out.pre n (by have:=Hnl.out;omega)).suf f (by have:=Hfn.out;have:=Hnl.out;rw [List.length_take];omega));simpa using h)) (by have:=Hlt.out;have:=Lb.tot_take l n;have:=Lb.tot_drop (l.take n) f;omega)).mono ?_;rintro e w8 ⟨rfl,hb8⟩;have Hb8:=η hb8;clear hb8)
    have HP8:=η (HP7.out.below' Hb8.out);have HB8:=η (HB7.out.trans (Hb8.out.mono HB7.out.size));have HS8:=η (HS7.out.below' Hb8.out)
    refine hK.out _ _ trivial (fun _=>?_)
    clear K hK
    try simp only [Act.put,π1,π2,π3,π4,π5,π6]
    refine tr 12 rfl (h:=fun K hK=>?_)
    go_simp
    go_wp2_with (go_at_call 140; refine (nm_join (l.drop n) _ _ _ ((by have h:=HS8.out.suf n (by have:=Hnl.out;omega);simpa using h)) (by have:=Hlt.out;have:=Lb.tot_drop l n;omega)).mono ?_;rintro e w9 ⟨rfl,hb8⟩;have Hb9:=η hb8;clear hb8)
    have HP9:=η (HP8.out.below' Hb9.out);have HB9:=η (HB8.out.trans (Hb9.out.mono HB8.out.size));have HS9:=η (HS8.out.below' Hb9.out)
    refine hK.out _ _ trivial (fun _=>?_)
    clear K hK
    refine tk 13 (.agg #[.string ⟨(Lb.join (l.take f)).toArray⟩,.string ⟨(Lb.join ((l.take n).drop f)).toArray⟩,.string ⟨(Lb.join (l.drop n)).toArray⟩,.string ⟨#[]⟩]) rfl (h:=?_)
    try simp only [Act.put,π1,π2,π3,π4,π5,π6]
    refine tr 14 rfl (h:=fun K hK=>?_)
    have r0:=HP9.out.f 0;have r1:=HP9.out.f 1;have r2:=HP9.out.f 2;have r3:=HP9.out.f 3;have c0:=HP9.out.c0;have c1:=HP9.out.c1;have c2:=HP9.out.c2;have c3:=HP9.out.c3
    go_simp
    refine hK.out _ _ trivial (fun _=>?_)
    clear K hK r0 r1 r2 r3 c0 c1 c2 c3
    try simp only [Act.put,π1,π2,π3,π4,π5,π6]
    refine wpAnyH_done (by kernel_rfl) ?_ _
    go_wp2_with fail
    have hF:=HP9.out.all (.string ⟨(Lb.join (l.take f)).toArray⟩) (.string ⟨(Lb.join ((l.take n).drop f)).toArray⟩) (.string ⟨(Lb.join (l.drop n)).toArray⟩) (.string ⟨#[]⟩)
    refine ret_one rfl rfl (load_per _ _ _ _ _ _ hF.c0 hF.c1 hF.c2 hF.c3) rfl ⟨?_,below4 HB9.out (Nat.le_of_eq Hq.out) _ _ _ _⟩
    rw [Hpq.out];rfl
end Go.Proofs.YtgnfmopcialllaaGreatDoor
set_option linter.unusedSimpArgs false
set_option linter.unusedVariables false
namespace Go.Proofs.YtgnfmopcialllaaGreatDoor
open Go.RowKit
set_option maxRecDepth 100000 in
theorem nm_whole (l:List (List UInt8)) (g n cap B:Nat) (w:World) (hO:OwnL B 9 1 RStr w (.slice (some ⟨g,0,none⟩) n cap) l) (hn:n=l.length) (htl:Lb.tot l≤8000000) :
  Calls Tryz.prog 139 #[.slice (some ⟨g,0,none⟩) n cap] w fun e w'=>e = .returned (.string ⟨(Lb.whole l).toArray⟩)∧Below B w w':=by
 have hBg:B≤w.heap.size:=Nat.le_of_lt (Nat.lt_of_le_of_lt hO.bndS.1 hO.bndS.2)
 have HO:=η hO;have Hn:=η hn;have Htl:=η (Nat.le_trans (Lb.tot_full l) htl);have HB:=η hBg
 clear hO hn htl hBg
 go_enter Tryz.func139, Tryz.ntmps139
 go_wp2_with (first
  | (go_at_call 185; with_reducible refine (nm_del_whole1 l g n cap B _ HO.out Hn.out).mono ?_;rintro e w1 ⟨⟨v,rfl,rfl,hS⟩,hb⟩;have HS:=η hS;have Hb:=η hb;clear hS hb)
  | (go_at_call 140; refine (nm_join (Lb.full l) _ _ _ HS.out Htl.out).mono ?_;rintro e w2 ⟨rfl,hb2⟩;have Hb2:=η hb2;clear hb2))
 go_ret
 exact ⟨rfl,Hb.out.trans (Hb2.out.mono (Nat.le_trans HB.out Hb.out.size))⟩
theorem nm_head (s:List UInt8) (n:Nat) (w:World) (hn:n≤1000) :
  Calls Tryz.prog 135 #[.string ⟨s.toArray⟩,.int .i64 (n:Int)] w fun e w'=>e = .returned (.string ⟨(s.take n).toArray⟩)∧Below w.heap.size w w':=by
 obtain ⟨q,h1,h2,h3,h4⟩:=cut_textN n s
 have h5:min (n:Int) (s.length:Int)=(q:Int):=by omega
 have hsz:(⟨s.toArray⟩:ByteArray).size=s.length:=size_mk s
 have h0:(0:Int)≤(q:Int):=by omega
 go_enter Tryz.func135, Tryz.ntmps135
 go_wp2
 go_ret
 exact ⟨by first | rfl | (rw [h4]),Below.refl _ _⟩
theorem bytes_conv (l:List UInt8) (w:World):∃cap W,(convert 9 189 (.string ⟨l.toArray⟩)).run Tryz.prog w = .ok (.slice (some ⟨w.heap.size,0,none⟩) l.length cap) W∧ByteRow W w.heap.size l∧Below w.heap.size w W:=by
 refine ⟨grownCap w l.length 0 5, w.drew.alloc (.cells (bytesRow ⟨l.toArray⟩ (grownCap w l.length 0 5)) 5 ((bytesRow ⟨l.toArray⟩ (grownCap w l.length 0 5)).size,(bytesRow ⟨l.toArray⟩ (grownCap w l.length 0 5)).size+1)),?_,?_,?_⟩
 ·
  rw [run_bytes_of_string (P:=Tryz.prog) w 9 189 5 ⟨l.toArray⟩ Tryz.underlying9 Tryz.underlying189 Tryz.underlying5, size_mk]
 ·
  exact byteRow_new w l _ 5 (grownCap_ge w l.length 0 5)
 ·
  exact ((Below.refl w.heap.size w).drew).alloc (Nat.le_refl _) _
theorem bytes_back (l:List UInt8) (g cap:Nat) (w:World) (h:ByteRow w g l):(convert 189 9 (.slice (some ⟨g,0,none⟩) l.length cap)).run Tryz.prog w = .ok (.string ⟨l.toArray⟩) w :=
 run_convert_bytes_back (P:=Tryz.prog) w 189 9 5 ⟨g,0,none⟩ cap l Tryz.underlying189 Tryz.underlying5 Tryz.underlying9 (fun j hj=>by
  rw [Addr.add_lit,Nat.zero_add]
  exact h.cell j _ (List.getElem?_eq_getElem hj))
def keyText (p:Lb.Per):List UInt8:=p.last++[32]++p.first++[32]++p.von++[32]++p.jr
set_option maxRecDepth 100000 in
set_option maxHeartbeats 800000 in
theorem nm_Key (p:Lb.Per) (w:World) (h1:p.first.length≤100000) (h2:p.von.length≤100000) (h3:p.last.length≤100000) (h4:p.jr.length≤100000) :
  Calls Tryz.prog 132 #[perV p] w fun e w'=>e = .returned (.string ⟨(Lb.pkey p).toArray⟩)∧Below w.heap.size w w':=by
 have hkt:Lb.pkey p=Ent.small (Lb.join (Lb.words (keyText p))):=rfl
 have hkl:(keyText p).length≤1000000:=by simp [keyText];omega
 have htw:=Lb.tot_words (keyText p)
 have hjl:=Lb.join_le (Lb.words (keyText p))
 obtain ⟨l,hl⟩:∃l,Lb.join (Lb.words (keyText p))=l:=⟨_,rfl⟩
 rw [hl] at hkt hjl
 have hll:l.length≤1000001:=by omega
 have hP:=P4.new w 169 (.string ⟨p.first.toArray⟩) (.string ⟨p.von.toArray⟩) (.string ⟨p.last.toArray⟩) (.string ⟨p.jr.toArray⟩)
 have c0:=hP.c0;have c1:=hP.c1;have c2:=hP.c2;have c3:=hP.c3
 have hb0:=below_new w (.cells #[.string ⟨p.first.toArray⟩,.string ⟨p.von.toArray⟩,.string ⟨p.last.toArray⟩,.string ⟨p.jr.toArray⟩] 169)
 have s1:(⟨p.last.toArray⟩:ByteArray)++⟨#[32]⟩=⟨(p.last++[32]).toArray⟩:=append_data p.last [32]
 have s2:=append_data (p.last++[32]) p.first
 have s3:(⟨(p.last++[32]++p.first).toArray⟩:ByteArray)++⟨#[32]⟩=⟨(p.last++[32]++p.first++[32]).toArray⟩:=append_data (p.last++[32]++p.first) [32]
 have s4:=append_data (p.last++[32]++p.first++[32]) p.von
 have s5:(⟨(p.last++[32]++p.first++[32]++p.von).toArray⟩:ByteArray)++⟨#[32]⟩=⟨(p.last++[32]++p.first++[32]++p.von++[32]).toArray⟩:=append_data (p.last++[32]++p.first++[32]++p.von) [32]
 have s6:(⟨(p.last++[32]++p.first++[32]++p.von++[32]).toArray⟩:ByteArray)++⟨p.jr.toArray⟩=⟨(keyText p).toArray⟩:=append_data (p.last++[32]++p.first++[32]++p.von++[32]) p.jr
 have hsum:(⟨p.last.toArray⟩:ByteArray)++⟨#[32]⟩++⟨p.first.toArray⟩++⟨#[32]⟩++⟨p.von.toArray⟩++⟨#[32]⟩++⟨p.jr.toArray⟩=⟨(keyText p).toArray⟩:=by rw [s1,s2,s3,s4,s5,s6]
 have Hsum:=η hsum;have Hkt:=η hkt;have Htw:=η htw;have Hkl:=η hkl;have Hl:=η hl;have Hb0:=η hb0
 clear hsum hkt htw hjl hkl hl hP hb0 s1 s2 s3 s4 s5 s6
 unfold perV
 go_enter Tryz.func132, Tryz.ntmps132
 go_wp2_with (first
  | (go_at_call 138; rw [show (_:ByteArray)=⟨(keyText p).toArray⟩ from Hsum.out];refine (nm_Words (keyText p) _ Hkl.out).mono ?_;rintro e w1 ⟨⟨g,cap,rfl,hcp,hS1⟩,hb1⟩;have HS1:=η hS1;have Hb1:=η hb1;clear hS1 hb1)
  | (go_at_call 140; refine (nm_join _ _ _ _ HS1.out (by have:=Htw.out;have:=Hkl.out;omega)).mono ?_;rw [Hl.out];rintro e w2 ⟨rfl,hb2⟩;have Hb2:=η hb2;clear hb2;obtain ⟨cap2,W,hcv,hrow,hbW⟩:=bytes_conv l w2;have Hrow:=η hrow;have HbW:=η hbW;clear hrow hbW))
 obtain ⟨q,hq⟩:∃q,w2.heap.size=q:=⟨_,rfl⟩
 have hw2:=bseq (bseq Hb0.out Hb1.out) Hb2.out
 have HQ:=η (show w.heap.size≤q by rw [←hq];exact hw2.size)
 have HbW:=η (bseq hw2 HbW.out)
 rw [hq] at Hrow ⊢
 clear hcv hw2 hq Hb0 Hb1 Hb2 HS1 c0 c1 c2 c3 h1 h2 h3 h4
 go_loopw [25] (fun i wr=>∃k:Nat,k≤l.length∧i = .int .i64 k∧ByteRow wr q (smallTo k l)∧Below w.heap.size w wr) (fun i _=>l.length - (intOf i).toNat)
 case atStart=>exact ⟨0,Nat.zero_le _,rfl,by simpa [smallTo,Ent.small] using Hrow.out,HbW.out⟩
 case round =>
  clear Hrow HbW
  obtain ⟨k,hk,rfl,hrow,hb⟩:=hrel
  by_cases hlt:k<l.length
  ·
   obtain ⟨x,hx⟩:∃x,l[k]? = some x:=⟨_,List.getElem?_eq_getElem hlt⟩
   have e0:=hrow.cell k x (smallTo_get k l x hx)
   have f0:=hrow.free k (by rw [smallTo_length];exact hlt)
   have hlt':(k:Int)<(l.length:Int):=by omega
   have Hrow:=η hrow;have Hb:=η hb;have Hx:=η hx
   clear hrow hb hx
   have hx256:=x.toNat_lt
   by_cases hup:65≤x.toNat∧x.toNat≤90
   ·
    have g1:(65:Int)≤(x.toNat:Int):=by omega
    have g2:(x.toNat:Int)≤90:=by omega
    obtain ⟨c,hc⟩:∃c:UInt8,c=x+32:=⟨_,rfl⟩
    have hlow:Ent.low x=c:=by unfold Ent.low;rw [if_pos hup,hc]
    have hw0:IntKind.u8.wrap ((x.toNat:Int) - 65)=(x.toNat:Int) - 65:=IntWalk.u8_in _ (by omega)
    have hw2:IntKind.u8.wrap ((x.toNat:Int) - 65+97)=(c.toNat:Int):=by
     rw [IntWalk.u8_in _ (by omega),hc,UInt8.toNat_add]
     simp
     omega
    clear hc
    have Hlow:=η hlow
    clear hup hlow
    go_wp2_with fail
    go_roundw
    case rel =>
     refine ⟨k+1,by omega,by go_num,?_,?_⟩
     ·
      rw [smallTo_step k l x Hx.out,Hlow.out]
      exact Hrow.out.set k (by rw [smallTo_length];exact hlt) c
     ·
      exact Hb.out.setCell HQ.out _
    case measure=>simp [intOf];omega
   ·
    have hlow:Ent.low x=x:=by unfold Ent.low;rw [if_neg hup]
    have Hlow:=η hlow
    clear hlow
    have hsame:smallTo (k+1) l=smallTo k l:=by
     rw [smallTo_step k l x Hx.out,Hlow.out]
     have h:=smallTo_get k l x Hx.out
     obtain ⟨h1,h2⟩:=List.getElem?_eq_some_iff.1 h
     rw [←h2]
     exact List.set_getElem_self h1
    have Hsame:=η hsame;clear hsame
    by_cases h65:65≤x.toNat
    ·
     have g1:(65:Int)≤(x.toNat:Int):=by omega
     have g2:¬(x.toNat:Int)≤90:=by omega
     clear hup
     go_wp2_with fail
     go_roundw
     case rel=>exact ⟨k+1,by omega,by go_num,by rw [Hsame.out];exact Hrow.out,Hb.out⟩
     case measure=>simp [intOf];omega
    ·
     have g1:¬(65:Int)≤(x.toNat:Int):=by omega
     clear hup
     go_wp2_with fail
     go_roundw
     case rel=>exact ⟨k+1,by omega,by go_num,by rw [Hsame.out];exact Hrow.out,Hb.out⟩
     case measure=>simp [intOf];omega
  ·
   have hkl:k=l.length:=by omega
   have hst:smallTo k l=Ent.small l:=by unfold smallTo;rw [hkl];simp
   rw [hst] at hrow
   have hlen:(Ent.small l).length=l.length:=by unfold Ent.small;simp
   have hback:=bytes_back (Ent.small l) q cap2 wr hrow
   rw [hlen] at hback
   have Hb:=η hb;clear hb hrow hst
   go_wp2_with fail
   go_ret
   exact ⟨ret_str Hkt.out.symm,Hb.out⟩
set_option maxRecDepth 100000 in
set_option maxHeartbeats 800000 in
theorem lb_small (l:List UInt8) (w:World) (hl:l.length≤1000000) :
  Calls Tryz.prog 133 #[.string ⟨l.toArray⟩] w fun e w'=>e = .returned (.string ⟨(Ent.small l).toArray⟩)∧Below w.heap.size w w':=by
 obtain ⟨cap2,W,hcv,hrow,hbW⟩:=bytes_conv l w
 have Hrow:=η hrow;have HbW:=η hbW;clear hrow hbW
 go_enter Tryz.func133, Tryz.ntmps133
 go_wp2_with fail
 clear hcv
 have HQ:=η (Nat.le_refl w.heap.size)
 go_loopw [10] (fun i wr=>∃k:Nat,k≤l.length∧i = .int .i64 k∧ByteRow wr w.heap.size (smallTo k l)∧Below w.heap.size w wr) (fun i _=>l.length - (intOf i).toNat)
 case atStart=>exact ⟨0,Nat.zero_le _,rfl,by simpa [smallTo,Ent.small] using Hrow.out,HbW.out⟩
 case round =>
  clear Hrow HbW
  obtain ⟨k,hk,rfl,hrow,hb⟩:=hrel
  by_cases hlt:k<l.length
  ·
   obtain ⟨x,hx⟩:∃x,l[k]? = some x:=⟨_,List.getElem?_eq_getElem hlt⟩
   have e0:=hrow.cell k x (smallTo_get k l x hx)
   have f0:=hrow.free k (by rw [smallTo_length];exact hlt)
   have hlt':(k:Int)<(l.length:Int):=by omega
   have Hrow:=η hrow;have Hb:=η hb;have Hx:=η hx
   clear hrow hb hx
   have hx256:=x.toNat_lt
   by_cases hup:65≤x.toNat∧x.toNat≤90
   ·
    have g1:(65:Int)≤(x.toNat:Int):=by omega
    have g2:(x.toNat:Int)≤90:=by omega
    obtain ⟨c,hc⟩:∃c:UInt8,c=x+32:=⟨_,rfl⟩
    have hlow:Ent.low x=c:=by unfold Ent.low;rw [if_pos hup,hc]
    have hw0:IntKind.u8.wrap ((x.toNat:Int) - 65)=(x.toNat:Int) - 65:=IntWalk.u8_in _ (by omega)
    have hw2:IntKind.u8.wrap ((x.toNat:Int) - 65+97)=(c.toNat:Int):=by
     rw [IntWalk.u8_in _ (by omega),hc,UInt8.toNat_add]
     simp
     omega
    clear hc
    have Hlow:=η hlow
    clear hup hlow
    go_wp2_with fail
    go_roundw
    case rel =>
     refine ⟨k+1,by omega,by go_num,?_,?_⟩
     ·
      rw [smallTo_step k l x Hx.out,Hlow.out]
      exact Hrow.out.set k (by rw [smallTo_length];exact hlt) c
     ·
      exact Hb.out.setCell HQ.out _
    case measure=>simp [intOf];omega
   ·
    have hlow:Ent.low x=x:=by unfold Ent.low;rw [if_neg hup]
    have Hlow:=η hlow
    clear hlow
    have hsame:smallTo (k+1) l=smallTo k l:=by
     rw [smallTo_step k l x Hx.out,Hlow.out]
     have h:=smallTo_get k l x Hx.out
     obtain ⟨h1,h2⟩:=List.getElem?_eq_some_iff.1 h
     rw [←h2]
     exact List.set_getElem_self h1
    have Hsame:=η hsame;clear hsame
    by_cases h65:65≤x.toNat
    ·
     have g1:(65:Int)≤(x.toNat:Int):=by omega
     have g2:¬(x.toNat:Int)≤90:=by omega
     clear hup
     go_wp2_with fail
     go_roundw
     case rel=>exact ⟨k+1,by omega,by go_num,by rw [Hsame.out];exact Hrow.out,Hb.out⟩
     case measure=>simp [intOf];omega
    ·
     have g1:¬(65:Int)≤(x.toNat:Int):=by omega
     clear hup
     go_wp2_with fail
     go_roundw
     case rel=>exact ⟨k+1,by omega,by go_num,by rw [Hsame.out];exact Hrow.out,Hb.out⟩
     case measure=>simp [intOf];omega
  ·
   have hkl:k=l.length:=by omega
   have hst:smallTo k l=Ent.small l:=by unfold smallTo;rw [hkl];simp
   rw [hst] at hrow
   have hlen:(Ent.small l).length=l.length:=by unfold Ent.small;simp
   have hback:=bytes_back (Ent.small l) w.heap.size cap2 wr hrow
   rw [hlen] at hback
   have Hb:=η hb;clear hb hrow hst
   go_wp2_with fail
   go_ret
   exact ⟨rfl,Hb.out⟩
end Go.Proofs.YtgnfmopcialllaaGreatDoor
