/- The walks of package side (layer 10), ninth part: the four readers. -/
import Derived.Test.YtgnfmopcialllaaGreatDoorTk
import Derived.Test.YtgnfmopcialllaaGreatDoorG27
set_option linter.unusedSimpArgs false
set_option linter.unusedVariables false
namespace Go.Proofs.YtgnfmopcialllaaGreatDoor
open Go.RowKit
theorem lab_info:(Tryz.prog.info? 127).map (fun i=>(i.zero,i.size,i.bytes))=some (some (.agg #[.string ⟨#[]⟩,.string ⟨#[]⟩,.int .i64 0]),3,40):=by kernel_rfl
theorem hd_info:(Tryz.prog.info? 129).map (fun i=>(i.zero,i.size,i.bytes))=some (some (.agg #[.int .i64 0,.string ⟨#[]⟩,.string ⟨#[]⟩,.int .i64 0]),4,48):=by kernel_rfl
def ReadPost (g B:Nat) (W:World) (y:Sd.Side) (e:Ending) (W':World):Prop:=e = .returned (.tuple #[])∧Kept g B W W'∧∃vl vh vc vb,SX g B W' y vl vh vc vb
set_option maxRecDepth 100000 in
set_option maxHeartbeats 3200000 in
theorem side_reader1 (g B:Nat) (x:Sd.Side) (vl vh vc vb v:Value) (w0 a c d:List UInt8) (S:Nat→Prop) (w:World) (hL:Laid10 w) (hX:SX g B w x vl vh vc vb) (hV:SliceIn S 1 RStr w v [w0,a,c,d]) (hD:∀j,S j→vl.ownBlock≠some j∧j≠g) (hx:x.labs.length≤1000000) (hd:d.length≤1000000) :
  Calls Tryz.prog 113 #[.pointer (some ⟨g,0,none⟩),v] w (ReadPost g B w { x with labs:=x.labs++[⟨a,c,Sd.val d⟩] }):=by
 obtain ⟨p,cap,rfl,_,_,hat⟩:=hV
 obtain ⟨b,off,vs1,rfl,hSb1,hbw1,hR1,hcc1⟩:=hat 1 a rfl
 have hR1:vs1=_:=hR1
 subst hR1
 have e1:w.cell? ⟨b,off+1,none⟩=some (.string ⟨a.toArray⟩):=hcc1 0 _ rfl
 obtain ⟨b2,off2,vs2,hp2,hSb2,hbw2,hR2,hcc2⟩:=hat 2 c rfl
 obtain ⟨rfl,rfl⟩:b=b2∧off=off2:=by injection hp2 with hp;injection hp with h1 h2;exact ⟨h1,h2⟩
 have hR2:vs2=_:=hR2
 subst hR2
 have e2:w.cell? ⟨b,off+2,none⟩=some (.string ⟨c.toArray⟩):=hcc2 0 _ rfl
 obtain ⟨b3,off3,vs3,hp3,hSb3,hbw3,hR3,hcc3⟩:=hat 3 d rfl
 obtain ⟨rfl,rfl⟩:b=b3∧off=off3:=by injection hp3 with hp;injection hp with h1 h2;exact ⟨h1,h2⟩
 have hR3:vs3=_:=hR3
 subst hR3
 have e3:w.cell? ⟨b,off+3,none⟩=some (.string ⟨d.toArray⟩):=hcc3 0 _ rfl
 have hgw:g<w.heap.size:=Nat.lt_of_lt_of_le hX.lt hX.sz
 have hDb:=(hD b hSb1).1
 have hbg:=(hD b hSb1).2
 have HX:=η hX;have HL:=η hL;have HDb:=η hDb
 have cg:=hX.c0
 obtain ⟨i0,hi,hz0,hz1,hz2⟩:=info_parts lab_info
 have Hi:=η hi;have Hz0:=η hz0;have Hz1:=η hz1;have Hz2:=η hz2;clear hi hz0 hz1 hz2
 obtain ⟨pv,capv,hfv⟩:=hX.l.form
 subst hfv
 clear hX hL hat hD hDb hcc1 hcc2 hcc3 hp2 hp3
 go_enter Tryz.func113, Tryz.ntmps113
 refine wp_region_any (by kernel_rfl) ?_
 change wpAny _ _ _ _ _ _ _ (World.drew _)
 have hB:Below w.heap.size w w.drew:=(Below.refl _ _).drew
 have hS:(fun W:World=>W.cell? ⟨b,off+1,none⟩=some (.string ⟨a.toArray⟩)∧W.cell? ⟨b,off+2,none⟩=some (.string ⟨c.toArray⟩)∧W.cell? ⟨b,off+3,none⟩=some (.string ⟨d.toArray⟩)) w.drew:=⟨e1,e2,e3⟩
 dsimp only at hS
 have hcg:w.drew.cell? ⟨g,0,none⟩=some (.slice pv x.labs.length capv):=cg
 generalize w.drew=w8 at hS hB hcg ⊢
 refine wpAny_of_held (S:=fun W=>W.cell? ⟨b,off+1,none⟩=some (.string ⟨a.toArray⟩)∧W.cell? ⟨b,off+2,none⟩=some (.string ⟨c.toArray⟩)∧W.cell? ⟨b,off+3,none⟩=some (.string ⟨d.toArray⟩)) _ _ _ _ ?_
 refine tk 0 (.pointer (some ⟨g,0,none⟩)) rfl (h:=?_)
 refine tk 1 (.pointer (some ⟨g,0,none⟩)) rfl (h:=?_)
 refine tk 2 (.pointer (some ⟨g,0,none⟩)) rfl (hy:=fun W hW=>by go_simp) (h:=?_)
 refine tk 3 (.pointer (some ⟨g,0,none⟩)) rfl (hy:=fun W hW=>by go_simp) (h:=?_)
 refine tk 5 (.slice (some ⟨b,off,none⟩) 4 cap) rfl (h:=?_)
 refine tk 6 (.pointer (some ⟨b,off+1,none⟩)) rfl (hy:=fun W hW=>by go_simp) (h:=?_)
 refine tk 7 (.string ⟨a.toArray⟩) rfl (hy:=fun W hW=>by obtain ⟨q1,q2,q3⟩:=hW;go_simp) (h:=?_)
 refine tk 8 (.slice (some ⟨b,off,none⟩) 4 cap) rfl (h:=?_)
 refine tk 9 (.pointer (some ⟨b,off+2,none⟩)) rfl (hy:=fun W hW=>by go_simp) (h:=?_)
 refine tk 10 (.string ⟨c.toArray⟩) rfl (hy:=fun W hW=>by obtain ⟨q1,q2,q3⟩:=hW;go_simp) (h:=?_)
 refine tk 11 (.slice (some ⟨b,off,none⟩) 4 cap) rfl (h:=?_)
 refine tk 12 (.pointer (some ⟨b,off+3,none⟩)) rfl (hy:=fun W hW=>by go_simp) (h:=?_)
 refine tk 13 (.string ⟨d.toArray⟩) rfl (hy:=fun W hW=>by obtain ⟨q1,q2,q3⟩:=hW;go_simp) (h:=?_)
 try simp only [Act.put,π1,π2,π3,π4,π5,π6]
 refine wpAnyH_ready (rs:=[4,14]) (by kernel_rfl) (by simp) ?_
 refine AllReadyH.cons rfl (fun K hK=>?_) (AllReadyH.cons rfl (fun K hK=>?_) AllReadyH.nil)
 ·
  go_simp
  refine hK.out _ _ hS (fun _=>?_)
  clear K hK
  try simp only [Act.put,π1,π2,π3,π4,π5,π6]
  refine tr 14 rfl (h:=fun K hK=>?_)
  go_simp
  go_wp2_with (go_at_call 114; refine (side_value d _ (HL.out.below hB) hd).mono ?_;rintro e9 w9 ⟨rfl,hb9⟩;replace hS:=(show (fun W:World=>W.cell? ⟨b,off+1,none⟩=some (.string ⟨a.toArray⟩)∧W.cell? ⟨b,off+2,none⟩=some (.string ⟨c.toArray⟩)∧W.cell? ⟨b,off+3,none⟩=some (.string ⟨d.toArray⟩)) w9 from ⟨((hb9.cell (p:=⟨b,off+1,none⟩) (Nat.lt_of_lt_of_le hbw1 hB.size)).trans hS.1),((hb9.cell (p:=⟨b,off+2,none⟩) (Nat.lt_of_lt_of_le hbw1 hB.size)).trans hS.2.1),((hb9.cell (p:=⟨b,off+3,none⟩) (Nat.lt_of_lt_of_le hbw1 hB.size)).trans hS.2.2)⟩);dsimp only at hS;replace hcg:=(hb9.cell (p:=⟨g,0,none⟩) (Nat.lt_of_lt_of_le hgw hB.size)).trans hcg;replace hB:=hB.trans (hb9.mono hB.size);clear hb9)
  refine hK.out _ _ hS (fun _=>?_)
  clear K hK
  refine tk 15 (.agg #[.string ⟨a.toArray⟩,.string ⟨c.toArray⟩,.int .i64 (Sd.val d)]) rfl (h:=?_)
  try simp only [Act.put,π1,π2,π3,π4,π5,π6]
  refine tr 16 rfl (h:=fun K hK=>?_)
  go_simp
  have HX9:=η (HX.out.below hB);have hB9:=hB;have hS9:=hS
  obtain ⟨fl,hown,hrep⟩:=HX9.out.l
  have Hown:=η hown;have Hrep:=η hrep;clear hown hrep
  have hn:=below_new w9 (.cells #[.string ⟨a.toArray⟩,.string ⟨c.toArray⟩,.int .i64 (Sd.val d)] 127)
  replace hS:(fun W:World=>W.cell? ⟨b,off+1,none⟩=some (.string ⟨a.toArray⟩)∧W.cell? ⟨b,off+2,none⟩=some (.string ⟨c.toArray⟩)∧W.cell? ⟨b,off+3,none⟩=some (.string ⟨d.toArray⟩)) (w9.alloc (.cells #[.string ⟨a.toArray⟩,.string ⟨c.toArray⟩,.int .i64 (Sd.val d)] 127)):=⟨((hn.cell (p:=⟨b,off+1,none⟩) (Nat.lt_of_lt_of_le hbw1 hB.size)).trans hS.1),((hn.cell (p:=⟨b,off+2,none⟩) (Nat.lt_of_lt_of_le hbw1 hB.size)).trans hS.2.1),((hn.cell (p:=⟨b,off+3,none⟩) (Nat.lt_of_lt_of_le hbw1 hB.size)).trans hS.2.2)⟩
  dsimp only at hS
  replace hcg:=(hn.cell (p:=⟨g,0,none⟩) (Nat.lt_of_lt_of_le hgw hB.size)).trans hcg
  replace hB:=hB.trans (hn.mono hB.size)
  clear hn
  refine hK.out _ _ hS (fun _=>?_)
  clear K hK
  try simp only [Act.put,π1,π2,π3,π4,π5,π6]
  refine tr 17 rfl (h:=fun K hK=>?_)
  rw [if_pos (by kernel_rfl)]
  refine wp_append1 (.tmp 8) (.tmp 20) 43 rfl B 127 i0 (.agg #[.string ⟨#[]⟩,.string ⟨#[]⟩,.int .i64 0]) 3 40 Tryz.underlying43 Hi.out Hz0.out Hz1.out Hz2.out (by rfl) (by decide) _ _ fl Hown.out rfl [.string ⟨a.toArray⟩,.string ⟨c.toArray⟩,.int .i64 (Sd.val d)] rfl rfl rfl (by simp [Value.oneCell']) (by unfold maxLen;omega) (by omega) HX9.out.sz ?_
  intro v2 w2 own2 g2 at2
  obtain ⟨p2,cap2,rfl,_,_⟩:=own2.form (Nat.succ_pos _)
  have hput:=SX.put0 (y:=⟨a,c,Sd.val d⟩) HX9.out Hrep.out rfl own2 g2 (at2.imp (fun h=>h) (fun h=>⟨_,h,Nat.le_succ _⟩))
  have hne9:Value.ownBlock (.slice pv x.labs.length capv)≠some g:=fun e=>by have:=(Hown.out.lt g e).1;have:=HX9.out.lt;omega
  have hg9:=Nat.lt_of_lt_of_le HX9.out.lt HX9.out.sz
  have hcg2:=(grown_cell g2 hg9 hne9 0).trans HX9.out.c0
  have hfg2:=(grown_frozen g2 hg9 hne9 0).trans HX9.out.f0
  have hS2:(fun W:World=>W.cell? ⟨b,off+1,none⟩=some (.string ⟨a.toArray⟩)∧W.cell? ⟨b,off+2,none⟩=some (.string ⟨c.toArray⟩)∧W.cell? ⟨b,off+3,none⟩=some (.string ⟨d.toArray⟩)) w2:=⟨(g2.cell (a:=⟨b,off+1,none⟩) hS9.1 (fun e=>HDb.out e.symm)),(g2.cell (a:=⟨b,off+2,none⟩) hS9.2.1 (fun e=>HDb.out e.symm)),(g2.cell (a:=⟨b,off+3,none⟩) hS9.2.2 (fun e=>HDb.out e.symm))⟩
  dsimp only at hS2
  have Hput:=η hput;have Hbg:=η hbg
  clear hput own2 at2 hne9 hg9 hbg
  refine hK.out _ _ hS2 (fun _=>?_)
  clear K hK
  refine tk 18 (.pointer (some ⟨g,0,none⟩)) rfl (hy:=fun W hW=>by go_simp) (h:=?_)
  refine tk 19 (.pointer (some ⟨g,0,none⟩)) rfl (hy:=fun W hW=>by go_simp) (h:=?_)
  try simp only [Act.put,π1,π2,π3,π4,π5,π6]
  refine tr 20 rfl (h:=fun K hK=>?_)
  go_simp
  refine hK.out _ _ ⟨((World.cell?_setCell_other _ _ _ _ (fun e=>by injection e with e;exact Hbg.out e.symm)).trans hS2.1),((World.cell?_setCell_other _ _ _ _ (fun e=>by injection e with e;exact Hbg.out e.symm)).trans hS2.2.1),((World.cell?_setCell_other _ _ _ _ (fun e=>by injection e with e;exact Hbg.out e.symm)).trans hS2.2.2)⟩ (fun _=>?_)
  clear K hK
  try simp only [Act.put,π1,π2,π3,π4,π5,π6]
  refine wpAnyH_done (by kernel_rfl) ?_ _
  go_wp2_with fail
  go_end0
  exact ⟨rfl,(Kept.below hB9 (Nat.le_of_lt HX.out.lt) HX.out.sz).trans Hput.out.2,_,_,_,_,Hput.out.1⟩
 ·
  go_simp
  go_wp2_with (go_at_call 114; refine (side_value d _ (HL.out.below hB) hd).mono ?_;rintro e9 w9 ⟨rfl,hb9⟩;replace hS:=(show (fun W:World=>W.cell? ⟨b,off+1,none⟩=some (.string ⟨a.toArray⟩)∧W.cell? ⟨b,off+2,none⟩=some (.string ⟨c.toArray⟩)∧W.cell? ⟨b,off+3,none⟩=some (.string ⟨d.toArray⟩)) w9 from ⟨((hb9.cell (p:=⟨b,off+1,none⟩) (Nat.lt_of_lt_of_le hbw1 hB.size)).trans hS.1),((hb9.cell (p:=⟨b,off+2,none⟩) (Nat.lt_of_lt_of_le hbw1 hB.size)).trans hS.2.1),((hb9.cell (p:=⟨b,off+3,none⟩) (Nat.lt_of_lt_of_le hbw1 hB.size)).trans hS.2.2)⟩);dsimp only at hS;replace hcg:=(hb9.cell (p:=⟨g,0,none⟩) (Nat.lt_of_lt_of_le hgw hB.size)).trans hcg;replace hB:=hB.trans (hb9.mono hB.size);clear hb9)
  refine hK.out _ _ hS (fun _=>?_)
  clear K hK
  refine tk 15 (.agg #[.string ⟨a.toArray⟩,.string ⟨c.toArray⟩,.int .i64 (Sd.val d)]) rfl (h:=?_)
  try simp only [Act.put,π1,π2,π3,π4,π5,π6]
  refine wpAnyH_ready (rs:=[4,16]) (by kernel_rfl) (by simp) ?_
  refine AllReadyH.cons rfl (fun K hK=>?_) (AllReadyH.cons rfl (fun K hK=>?_) AllReadyH.nil)
  ·
   go_simp
   refine hK.out _ _ hS (fun _=>?_)
   clear K hK
   try simp only [Act.put,π1,π2,π3,π4,π5,π6]
   refine tr 16 rfl (h:=fun K hK=>?_)
   go_simp
   have HX9:=η (HX.out.below hB);have hB9:=hB;have hS9:=hS
   obtain ⟨fl,hown,hrep⟩:=HX9.out.l
   have Hown:=η hown;have Hrep:=η hrep;clear hown hrep
   have hn:=below_new w9 (.cells #[.string ⟨a.toArray⟩,.string ⟨c.toArray⟩,.int .i64 (Sd.val d)] 127)
   replace hS:(fun W:World=>W.cell? ⟨b,off+1,none⟩=some (.string ⟨a.toArray⟩)∧W.cell? ⟨b,off+2,none⟩=some (.string ⟨c.toArray⟩)∧W.cell? ⟨b,off+3,none⟩=some (.string ⟨d.toArray⟩)) (w9.alloc (.cells #[.string ⟨a.toArray⟩,.string ⟨c.toArray⟩,.int .i64 (Sd.val d)] 127)):=⟨((hn.cell (p:=⟨b,off+1,none⟩) (Nat.lt_of_lt_of_le hbw1 hB.size)).trans hS.1),((hn.cell (p:=⟨b,off+2,none⟩) (Nat.lt_of_lt_of_le hbw1 hB.size)).trans hS.2.1),((hn.cell (p:=⟨b,off+3,none⟩) (Nat.lt_of_lt_of_le hbw1 hB.size)).trans hS.2.2)⟩
   dsimp only at hS
   replace hcg:=(hn.cell (p:=⟨g,0,none⟩) (Nat.lt_of_lt_of_le hgw hB.size)).trans hcg
   replace hB:=hB.trans (hn.mono hB.size)
   clear hn
   refine hK.out _ _ hS (fun _=>?_)
   clear K hK
   try simp only [Act.put,π1,π2,π3,π4,π5,π6]
   refine tr 17 rfl (h:=fun K hK=>?_)
   rw [if_pos (by kernel_rfl)]
   refine wp_append1 (.tmp 8) (.tmp 20) 43 rfl B 127 i0 (.agg #[.string ⟨#[]⟩,.string ⟨#[]⟩,.int .i64 0]) 3 40 Tryz.underlying43 Hi.out Hz0.out Hz1.out Hz2.out (by rfl) (by decide) _ _ fl Hown.out rfl [.string ⟨a.toArray⟩,.string ⟨c.toArray⟩,.int .i64 (Sd.val d)] rfl rfl rfl (by simp [Value.oneCell']) (by unfold maxLen;omega) (by omega) HX9.out.sz ?_
   intro v2 w2 own2 g2 at2
   obtain ⟨p2,cap2,rfl,_,_⟩:=own2.form (Nat.succ_pos _)
   have hput:=SX.put0 (y:=⟨a,c,Sd.val d⟩) HX9.out Hrep.out rfl own2 g2 (at2.imp (fun h=>h) (fun h=>⟨_,h,Nat.le_succ _⟩))
   have hne9:Value.ownBlock (.slice pv x.labs.length capv)≠some g:=fun e=>by have:=(Hown.out.lt g e).1;have:=HX9.out.lt;omega
   have hg9:=Nat.lt_of_lt_of_le HX9.out.lt HX9.out.sz
   have hcg2:=(grown_cell g2 hg9 hne9 0).trans HX9.out.c0
   have hfg2:=(grown_frozen g2 hg9 hne9 0).trans HX9.out.f0
   have hS2:(fun W:World=>W.cell? ⟨b,off+1,none⟩=some (.string ⟨a.toArray⟩)∧W.cell? ⟨b,off+2,none⟩=some (.string ⟨c.toArray⟩)∧W.cell? ⟨b,off+3,none⟩=some (.string ⟨d.toArray⟩)) w2:=⟨(g2.cell (a:=⟨b,off+1,none⟩) hS9.1 (fun e=>HDb.out e.symm)),(g2.cell (a:=⟨b,off+2,none⟩) hS9.2.1 (fun e=>HDb.out e.symm)),(g2.cell (a:=⟨b,off+3,none⟩) hS9.2.2 (fun e=>HDb.out e.symm))⟩
   dsimp only at hS2
   have Hput:=η hput;have Hbg:=η hbg
   clear hput own2 at2 hne9 hg9 hbg
   refine hK.out _ _ hS2 (fun _=>?_)
   clear K hK
   refine tk 18 (.pointer (some ⟨g,0,none⟩)) rfl (hy:=fun W hW=>by go_simp) (h:=?_)
   refine tk 19 (.pointer (some ⟨g,0,none⟩)) rfl (hy:=fun W hW=>by go_simp) (h:=?_)
   try simp only [Act.put,π1,π2,π3,π4,π5,π6]
   refine tr 20 rfl (h:=fun K hK=>?_)
   go_simp
   refine hK.out _ _ ⟨((World.cell?_setCell_other _ _ _ _ (fun e=>by injection e with e;exact Hbg.out e.symm)).trans hS2.1),((World.cell?_setCell_other _ _ _ _ (fun e=>by injection e with e;exact Hbg.out e.symm)).trans hS2.2.1),((World.cell?_setCell_other _ _ _ _ (fun e=>by injection e with e;exact Hbg.out e.symm)).trans hS2.2.2)⟩ (fun _=>?_)
   clear K hK
   try simp only [Act.put,π1,π2,π3,π4,π5,π6]
   refine wpAnyH_done (by kernel_rfl) ?_ _
   go_wp2_with fail
   go_end0
   exact ⟨rfl,(Kept.below hB9 (Nat.le_of_lt HX.out.lt) HX.out.sz).trans Hput.out.2,_,_,_,_,Hput.out.1⟩
  ·
   go_simp
   have HX9:=η (HX.out.below hB);have hB9:=hB;have hS9:=hS
   obtain ⟨fl,hown,hrep⟩:=HX9.out.l
   have Hown:=η hown;have Hrep:=η hrep;clear hown hrep
   have hn:=below_new w9 (.cells #[.string ⟨a.toArray⟩,.string ⟨c.toArray⟩,.int .i64 (Sd.val d)] 127)
   replace hS:(fun W:World=>W.cell? ⟨b,off+1,none⟩=some (.string ⟨a.toArray⟩)∧W.cell? ⟨b,off+2,none⟩=some (.string ⟨c.toArray⟩)∧W.cell? ⟨b,off+3,none⟩=some (.string ⟨d.toArray⟩)) (w9.alloc (.cells #[.string ⟨a.toArray⟩,.string ⟨c.toArray⟩,.int .i64 (Sd.val d)] 127)):=⟨((hn.cell (p:=⟨b,off+1,none⟩) (Nat.lt_of_lt_of_le hbw1 hB.size)).trans hS.1),((hn.cell (p:=⟨b,off+2,none⟩) (Nat.lt_of_lt_of_le hbw1 hB.size)).trans hS.2.1),((hn.cell (p:=⟨b,off+3,none⟩) (Nat.lt_of_lt_of_le hbw1 hB.size)).trans hS.2.2)⟩
   dsimp only at hS
   replace hcg:=(hn.cell (p:=⟨g,0,none⟩) (Nat.lt_of_lt_of_le hgw hB.size)).trans hcg
   replace hB:=hB.trans (hn.mono hB.size)
   clear hn
   refine hK.out _ _ hS (fun _=>?_)
   clear K hK
   try simp only [Act.put,π1,π2,π3,π4,π5,π6]
   refine tr 4 rfl (h:=fun K hK=>?_)
   go_simp
   refine hK.out _ _ hS (fun _=>?_)
   clear K hK
   try simp only [Act.put,π1,π2,π3,π4,π5,π6]
   refine tr 17 rfl (h:=fun K hK=>?_)
   rw [if_pos (by kernel_rfl)]
   refine wp_append1 (.tmp 8) (.tmp 20) 43 rfl B 127 i0 (.agg #[.string ⟨#[]⟩,.string ⟨#[]⟩,.int .i64 0]) 3 40 Tryz.underlying43 Hi.out Hz0.out Hz1.out Hz2.out (by rfl) (by decide) _ _ fl Hown.out rfl [.string ⟨a.toArray⟩,.string ⟨c.toArray⟩,.int .i64 (Sd.val d)] rfl rfl rfl (by simp [Value.oneCell']) (by unfold maxLen;omega) (by omega) HX9.out.sz ?_
   intro v2 w2 own2 g2 at2
   obtain ⟨p2,cap2,rfl,_,_⟩:=own2.form (Nat.succ_pos _)
   have hput:=SX.put0 (y:=⟨a,c,Sd.val d⟩) HX9.out Hrep.out rfl own2 g2 (at2.imp (fun h=>h) (fun h=>⟨_,h,Nat.le_succ _⟩))
   have hne9:Value.ownBlock (.slice pv x.labs.length capv)≠some g:=fun e=>by have:=(Hown.out.lt g e).1;have:=HX9.out.lt;omega
   have hg9:=Nat.lt_of_lt_of_le HX9.out.lt HX9.out.sz
   have hcg2:=(grown_cell g2 hg9 hne9 0).trans HX9.out.c0
   have hfg2:=(grown_frozen g2 hg9 hne9 0).trans HX9.out.f0
   have hS2:(fun W:World=>W.cell? ⟨b,off+1,none⟩=some (.string ⟨a.toArray⟩)∧W.cell? ⟨b,off+2,none⟩=some (.string ⟨c.toArray⟩)∧W.cell? ⟨b,off+3,none⟩=some (.string ⟨d.toArray⟩)) w2:=⟨(g2.cell (a:=⟨b,off+1,none⟩) hS9.1 (fun e=>HDb.out e.symm)),(g2.cell (a:=⟨b,off+2,none⟩) hS9.2.1 (fun e=>HDb.out e.symm)),(g2.cell (a:=⟨b,off+3,none⟩) hS9.2.2 (fun e=>HDb.out e.symm))⟩
   dsimp only at hS2
   have Hput:=η hput;have Hbg:=η hbg
   clear hput own2 at2 hne9 hg9 hbg
   refine hK.out _ _ hS2 (fun _=>?_)
   clear K hK
   refine tk 18 (.pointer (some ⟨g,0,none⟩)) rfl (hy:=fun W hW=>by go_simp) (h:=?_)
   refine tk 19 (.pointer (some ⟨g,0,none⟩)) rfl (hy:=fun W hW=>by go_simp) (h:=?_)
   try simp only [Act.put,π1,π2,π3,π4,π5,π6]
   refine tr 20 rfl (h:=fun K hK=>?_)
   go_simp
   refine hK.out _ _ ⟨((World.cell?_setCell_other _ _ _ _ (fun e=>by injection e with e;exact Hbg.out e.symm)).trans hS2.1),((World.cell?_setCell_other _ _ _ _ (fun e=>by injection e with e;exact Hbg.out e.symm)).trans hS2.2.1),((World.cell?_setCell_other _ _ _ _ (fun e=>by injection e with e;exact Hbg.out e.symm)).trans hS2.2.2)⟩ (fun _=>?_)
   clear K hK
   try simp only [Act.put,π1,π2,π3,π4,π5,π6]
   refine wpAnyH_done (by kernel_rfl) ?_ _
   go_wp2_with fail
   go_end0
   exact ⟨rfl,(Kept.below hB9 (Nat.le_of_lt HX.out.lt) HX.out.sz).trans Hput.out.2,_,_,_,_,Hput.out.1⟩
set_option maxRecDepth 100000 in
set_option maxHeartbeats 3200000 in
theorem side_reader2 (g B:Nat) (x:Sd.Side) (vl vh vc vb v:Value) (w0 a c d e:List UInt8) (S:Nat→Prop) (w:World) (hL:Laid10 w) (hX:SX g B w x vl vh vc vb) (hV:SliceIn S 1 RStr w v [w0,a,c,d,e]) (hD:∀j,S j→vh.ownBlock≠some j∧j≠g) (hx:x.heads.length≤1000000) (ha:a.length≤1000000) (he:e.length≤1000000) :
  Calls Tryz.prog 115 #[.pointer (some ⟨g,0,none⟩),v] w (ReadPost g B w { x with heads:=x.heads++[⟨Sd.val a,c,d,Sd.val e⟩] }):=by
 obtain ⟨p,cap,rfl,_,_,hat⟩:=hV
 obtain ⟨b,off,vs1,rfl,hSb1,hbw1,hR1,hcc1⟩:=hat 1 a rfl
 have hR1:vs1=_:=hR1
 subst hR1
 have e1:w.cell? ⟨b,off+1,none⟩=some (.string ⟨a.toArray⟩):=hcc1 0 _ rfl
 obtain ⟨b2,off2,vs2,hp2,hSb2,hbw2,hR2,hcc2⟩:=hat 2 c rfl
 obtain ⟨rfl,rfl⟩:b=b2∧off=off2:=by injection hp2 with hp;injection hp with h1 h2;exact ⟨h1,h2⟩
 have hR2:vs2=_:=hR2
 subst hR2
 have e2:w.cell? ⟨b,off+2,none⟩=some (.string ⟨c.toArray⟩):=hcc2 0 _ rfl
 obtain ⟨b3,off3,vs3,hp3,hSb3,hbw3,hR3,hcc3⟩:=hat 3 d rfl
 obtain ⟨rfl,rfl⟩:b=b3∧off=off3:=by injection hp3 with hp;injection hp with h1 h2;exact ⟨h1,h2⟩
 have hR3:vs3=_:=hR3
 subst hR3
 have e3:w.cell? ⟨b,off+3,none⟩=some (.string ⟨d.toArray⟩):=hcc3 0 _ rfl
 obtain ⟨b4,off4,vs4,hp4,hSb4,hbw4,hR4,hcc4⟩:=hat 4 e rfl
 obtain ⟨rfl,rfl⟩:b=b4∧off=off4:=by injection hp4 with hp;injection hp with h1 h2;exact ⟨h1,h2⟩
 have hR4:vs4=_:=hR4
 subst hR4
 have e4:w.cell? ⟨b,off+4,none⟩=some (.string ⟨e.toArray⟩):=hcc4 0 _ rfl
 have hgw:g<w.heap.size:=Nat.lt_of_lt_of_le hX.lt hX.sz
 have hDb:=(hD b hSb1).1
 have hbg:=(hD b hSb1).2
 have HX:=η hX;have HL:=η hL;have HDb:=η hDb
 have cg:=hX.c1
 obtain ⟨i0,hi,hz0,hz1,hz2⟩:=info_parts hd_info
 have Hi:=η hi;have Hz0:=η hz0;have Hz1:=η hz1;have Hz2:=η hz2;clear hi hz0 hz1 hz2
 obtain ⟨pv,capv,hfv⟩:=hX.h.form
 subst hfv
 clear hX hL hat hD hDb hcc1 hcc2 hcc3 hcc4 hp2 hp3 hp4
 go_enter Tryz.func115, Tryz.ntmps115
 refine wp_region_any (by kernel_rfl) ?_
 change wpAny _ _ _ _ _ _ _ (World.drew _)
 have hB:Below w.heap.size w w.drew:=(Below.refl _ _).drew
 have hS:(fun W:World=>W.cell? ⟨b,off+1,none⟩=some (.string ⟨a.toArray⟩)∧W.cell? ⟨b,off+2,none⟩=some (.string ⟨c.toArray⟩)∧W.cell? ⟨b,off+3,none⟩=some (.string ⟨d.toArray⟩)∧W.cell? ⟨b,off+4,none⟩=some (.string ⟨e.toArray⟩)) w.drew:=⟨e1,e2,e3,e4⟩
 dsimp only at hS
 have hcg:w.drew.cell? ⟨g,1,none⟩=some (.slice pv x.heads.length capv):=cg
 generalize w.drew=w8 at hS hB hcg ⊢
 refine wpAny_of_held (S:=fun W=>W.cell? ⟨b,off+1,none⟩=some (.string ⟨a.toArray⟩)∧W.cell? ⟨b,off+2,none⟩=some (.string ⟨c.toArray⟩)∧W.cell? ⟨b,off+3,none⟩=some (.string ⟨d.toArray⟩)∧W.cell? ⟨b,off+4,none⟩=some (.string ⟨e.toArray⟩)) _ _ _ _ ?_
 refine tk 0 (.pointer (some ⟨g,0,none⟩)) rfl (h:=?_)
 refine tk 1 (.pointer (some ⟨g,0,none⟩)) rfl (h:=?_)
 refine tk 2 (.pointer (some ⟨g,0,none⟩)) rfl (hy:=fun W hW=>by go_simp) (h:=?_)
 refine tk 3 (.pointer (some ⟨g,1,none⟩)) rfl (hy:=fun W hW=>by go_simp) (h:=?_)
 refine tk 5 (.slice (some ⟨b,off,none⟩) 5 cap) rfl (h:=?_)
 refine tk 6 (.pointer (some ⟨b,off+1,none⟩)) rfl (hy:=fun W hW=>by go_simp) (h:=?_)
 refine tk 7 (.string ⟨a.toArray⟩) rfl (hy:=fun W hW=>by obtain ⟨q1,q2,q3,q4⟩:=hW;go_simp) (h:=?_)
 refine tk 9 (.slice (some ⟨b,off,none⟩) 5 cap) rfl (h:=?_)
 refine tk 10 (.pointer (some ⟨b,off+2,none⟩)) rfl (hy:=fun W hW=>by go_simp) (h:=?_)
 refine tk 11 (.string ⟨c.toArray⟩) rfl (hy:=fun W hW=>by obtain ⟨q1,q2,q3,q4⟩:=hW;go_simp) (h:=?_)
 refine tk 12 (.slice (some ⟨b,off,none⟩) 5 cap) rfl (h:=?_)
 refine tk 13 (.pointer (some ⟨b,off+3,none⟩)) rfl (hy:=fun W hW=>by go_simp) (h:=?_)
 refine tk 14 (.string ⟨d.toArray⟩) rfl (hy:=fun W hW=>by obtain ⟨q1,q2,q3,q4⟩:=hW;go_simp) (h:=?_)
 refine tk 15 (.slice (some ⟨b,off,none⟩) 5 cap) rfl (h:=?_)
 refine tk 16 (.pointer (some ⟨b,off+4,none⟩)) rfl (hy:=fun W hW=>by go_simp) (h:=?_)
 refine tk 17 (.string ⟨e.toArray⟩) rfl (hy:=fun W hW=>by obtain ⟨q1,q2,q3,q4⟩:=hW;go_simp) (h:=?_)
 try simp only [Act.put,π1,π2,π3,π4,π5,π6]
 refine wpAnyH_ready (rs:=[4,8]) (by kernel_rfl) (by simp) ?_
 refine AllReadyH.cons rfl (fun K hK=>?_) (AllReadyH.cons rfl (fun K hK=>?_) AllReadyH.nil)
 ·
  go_simp
  refine hK.out _ _ hS (fun _=>?_)
  clear K hK
  try simp only [Act.put,π1,π2,π3,π4,π5,π6]
  refine tr 8 rfl (h:=fun K hK=>?_)
  go_simp
  go_wp2_with (go_at_call 114; refine (side_value a _ (HL.out.below hB) ha).mono ?_;rintro e9 w9 ⟨rfl,hb9⟩;replace hS:=(show (fun W:World=>W.cell? ⟨b,off+1,none⟩=some (.string ⟨a.toArray⟩)∧W.cell? ⟨b,off+2,none⟩=some (.string ⟨c.toArray⟩)∧W.cell? ⟨b,off+3,none⟩=some (.string ⟨d.toArray⟩)∧W.cell? ⟨b,off+4,none⟩=some (.string ⟨e.toArray⟩)) w9 from ⟨((hb9.cell (p:=⟨b,off+1,none⟩) (Nat.lt_of_lt_of_le hbw1 hB.size)).trans hS.1),((hb9.cell (p:=⟨b,off+2,none⟩) (Nat.lt_of_lt_of_le hbw1 hB.size)).trans hS.2.1),((hb9.cell (p:=⟨b,off+3,none⟩) (Nat.lt_of_lt_of_le hbw1 hB.size)).trans hS.2.2.1),((hb9.cell (p:=⟨b,off+4,none⟩) (Nat.lt_of_lt_of_le hbw1 hB.size)).trans hS.2.2.2)⟩);dsimp only at hS;replace hcg:=(hb9.cell (p:=⟨g,1,none⟩) (Nat.lt_of_lt_of_le hgw hB.size)).trans hcg;replace hB:=hB.trans (hb9.mono hB.size);clear hb9)
  refine hK.out _ _ hS (fun _=>?_)
  clear K hK
  try simp only [Act.put,π1,π2,π3,π4,π5,π6]
  refine tr 18 rfl (h:=fun K hK=>?_)
  go_simp
  go_wp2_with (go_at_call 114; refine (side_value e _ (HL.out.below hB) he).mono ?_;rintro e9 w10 ⟨rfl,hb9⟩;replace hS:=(show (fun W:World=>W.cell? ⟨b,off+1,none⟩=some (.string ⟨a.toArray⟩)∧W.cell? ⟨b,off+2,none⟩=some (.string ⟨c.toArray⟩)∧W.cell? ⟨b,off+3,none⟩=some (.string ⟨d.toArray⟩)∧W.cell? ⟨b,off+4,none⟩=some (.string ⟨e.toArray⟩)) w10 from ⟨((hb9.cell (p:=⟨b,off+1,none⟩) (Nat.lt_of_lt_of_le hbw1 hB.size)).trans hS.1),((hb9.cell (p:=⟨b,off+2,none⟩) (Nat.lt_of_lt_of_le hbw1 hB.size)).trans hS.2.1),((hb9.cell (p:=⟨b,off+3,none⟩) (Nat.lt_of_lt_of_le hbw1 hB.size)).trans hS.2.2.1),((hb9.cell (p:=⟨b,off+4,none⟩) (Nat.lt_of_lt_of_le hbw1 hB.size)).trans hS.2.2.2)⟩);dsimp only at hS;replace hcg:=(hb9.cell (p:=⟨g,1,none⟩) (Nat.lt_of_lt_of_le hgw hB.size)).trans hcg;replace hB:=hB.trans (hb9.mono hB.size);clear hb9)
  refine hK.out _ _ hS (fun _=>?_)
  clear K hK
  refine tk 19 (.agg #[.int .i64 (Sd.val a),.string ⟨c.toArray⟩,.string ⟨d.toArray⟩,.int .i64 (Sd.val e)]) rfl (h:=?_)
  try simp only [Act.put,π1,π2,π3,π4,π5,π6]
  refine tr 20 rfl (h:=fun K hK=>?_)
  go_simp
  have HX9:=η (HX.out.below hB);have hB9:=hB;have hS9:=hS
  obtain ⟨fl,hown,hrep⟩:=HX9.out.h
  have Hown:=η hown;have Hrep:=η hrep;clear hown hrep
  have hn:=below_new w10 (.cells #[.int .i64 (Sd.val a),.string ⟨c.toArray⟩,.string ⟨d.toArray⟩,.int .i64 (Sd.val e)] 129)
  replace hS:(fun W:World=>W.cell? ⟨b,off+1,none⟩=some (.string ⟨a.toArray⟩)∧W.cell? ⟨b,off+2,none⟩=some (.string ⟨c.toArray⟩)∧W.cell? ⟨b,off+3,none⟩=some (.string ⟨d.toArray⟩)∧W.cell? ⟨b,off+4,none⟩=some (.string ⟨e.toArray⟩)) (w10.alloc (.cells #[.int .i64 (Sd.val a),.string ⟨c.toArray⟩,.string ⟨d.toArray⟩,.int .i64 (Sd.val e)] 129)):=⟨((hn.cell (p:=⟨b,off+1,none⟩) (Nat.lt_of_lt_of_le hbw1 hB.size)).trans hS.1),((hn.cell (p:=⟨b,off+2,none⟩) (Nat.lt_of_lt_of_le hbw1 hB.size)).trans hS.2.1),((hn.cell (p:=⟨b,off+3,none⟩) (Nat.lt_of_lt_of_le hbw1 hB.size)).trans hS.2.2.1),((hn.cell (p:=⟨b,off+4,none⟩) (Nat.lt_of_lt_of_le hbw1 hB.size)).trans hS.2.2.2)⟩
  dsimp only at hS
  replace hcg:=(hn.cell (p:=⟨g,1,none⟩) (Nat.lt_of_lt_of_le hgw hB.size)).trans hcg
  replace hB:=hB.trans (hn.mono hB.size)
  clear hn
  refine hK.out _ _ hS (fun _=>?_)
  clear K hK
  try simp only [Act.put,π1,π2,π3,π4,π5,π6]
  refine tr 21 rfl (h:=fun K hK=>?_)
  rw [if_pos (by kernel_rfl)]
  refine wp_append1 (.tmp 8) (.tmp 24) 44 rfl B 129 i0 (.agg #[.int .i64 0,.string ⟨#[]⟩,.string ⟨#[]⟩,.int .i64 0]) 4 48 Tryz.underlying44 Hi.out Hz0.out Hz1.out Hz2.out (by rfl) (by decide) _ _ fl Hown.out rfl [.int .i64 (Sd.val a),.string ⟨c.toArray⟩,.string ⟨d.toArray⟩,.int .i64 (Sd.val e)] rfl rfl rfl (by simp [Value.oneCell']) (by unfold maxLen;omega) (by omega) HX9.out.sz ?_
  intro v2 w2 own2 g2 at2
  obtain ⟨p2,cap2,rfl,_,_⟩:=own2.form (Nat.succ_pos _)
  have hput:=SX.put1 (y:=⟨Sd.val a,c,d,Sd.val e⟩) HX9.out Hrep.out rfl own2 g2 (at2.imp (fun h=>h) (fun h=>⟨_,h,Nat.le_succ _⟩))
  have hne9:Value.ownBlock (.slice pv x.heads.length capv)≠some g:=fun e=>by have:=(Hown.out.lt g e).1;have:=HX9.out.lt;omega
  have hg9:=Nat.lt_of_lt_of_le HX9.out.lt HX9.out.sz
  have hcg2:=(grown_cell g2 hg9 hne9 1).trans HX9.out.c1
  have hfg2:=(grown_frozen g2 hg9 hne9 1).trans HX9.out.f1
  have hS2:(fun W:World=>W.cell? ⟨b,off+1,none⟩=some (.string ⟨a.toArray⟩)∧W.cell? ⟨b,off+2,none⟩=some (.string ⟨c.toArray⟩)∧W.cell? ⟨b,off+3,none⟩=some (.string ⟨d.toArray⟩)∧W.cell? ⟨b,off+4,none⟩=some (.string ⟨e.toArray⟩)) w2:=⟨(g2.cell (a:=⟨b,off+1,none⟩) hS9.1 (fun e=>HDb.out e.symm)),(g2.cell (a:=⟨b,off+2,none⟩) hS9.2.1 (fun e=>HDb.out e.symm)),(g2.cell (a:=⟨b,off+3,none⟩) hS9.2.2.1 (fun e=>HDb.out e.symm)),(g2.cell (a:=⟨b,off+4,none⟩) hS9.2.2.2 (fun e=>HDb.out e.symm))⟩
  dsimp only at hS2
  have Hput:=η hput;have Hbg:=η hbg
  clear hput own2 at2 hne9 hg9 hbg
  refine hK.out _ _ hS2 (fun _=>?_)
  clear K hK
  refine tk 22 (.pointer (some ⟨g,0,none⟩)) rfl (hy:=fun W hW=>by go_simp) (h:=?_)
  refine tk 23 (.pointer (some ⟨g,1,none⟩)) rfl (hy:=fun W hW=>by go_simp) (h:=?_)
  try simp only [Act.put,π1,π2,π3,π4,π5,π6]
  refine tr 24 rfl (h:=fun K hK=>?_)
  go_simp
  refine hK.out _ _ ⟨((World.cell?_setCell_other _ _ _ _ (fun e=>by injection e with e;exact Hbg.out e.symm)).trans hS2.1),((World.cell?_setCell_other _ _ _ _ (fun e=>by injection e with e;exact Hbg.out e.symm)).trans hS2.2.1),((World.cell?_setCell_other _ _ _ _ (fun e=>by injection e with e;exact Hbg.out e.symm)).trans hS2.2.2.1),((World.cell?_setCell_other _ _ _ _ (fun e=>by injection e with e;exact Hbg.out e.symm)).trans hS2.2.2.2)⟩ (fun _=>?_)
  clear K hK
  try simp only [Act.put,π1,π2,π3,π4,π5,π6]
  refine wpAnyH_done (by kernel_rfl) ?_ _
  go_wp2_with fail
  go_end0
  exact ⟨rfl,(Kept.below hB9 (Nat.le_of_lt HX.out.lt) HX.out.sz).trans Hput.out.2,_,_,_,_,Hput.out.1⟩
 ·
  go_simp
  go_wp2_with (go_at_call 114; refine (side_value a _ (HL.out.below hB) ha).mono ?_;rintro e9 w9 ⟨rfl,hb9⟩;replace hS:=(show (fun W:World=>W.cell? ⟨b,off+1,none⟩=some (.string ⟨a.toArray⟩)∧W.cell? ⟨b,off+2,none⟩=some (.string ⟨c.toArray⟩)∧W.cell? ⟨b,off+3,none⟩=some (.string ⟨d.toArray⟩)∧W.cell? ⟨b,off+4,none⟩=some (.string ⟨e.toArray⟩)) w9 from ⟨((hb9.cell (p:=⟨b,off+1,none⟩) (Nat.lt_of_lt_of_le hbw1 hB.size)).trans hS.1),((hb9.cell (p:=⟨b,off+2,none⟩) (Nat.lt_of_lt_of_le hbw1 hB.size)).trans hS.2.1),((hb9.cell (p:=⟨b,off+3,none⟩) (Nat.lt_of_lt_of_le hbw1 hB.size)).trans hS.2.2.1),((hb9.cell (p:=⟨b,off+4,none⟩) (Nat.lt_of_lt_of_le hbw1 hB.size)).trans hS.2.2.2)⟩);dsimp only at hS;replace hcg:=(hb9.cell (p:=⟨g,1,none⟩) (Nat.lt_of_lt_of_le hgw hB.size)).trans hcg;replace hB:=hB.trans (hb9.mono hB.size);clear hb9)
  refine hK.out _ _ hS (fun _=>?_)
  clear K hK
  try simp only [Act.put,π1,π2,π3,π4,π5,π6]
  refine wpAnyH_ready (rs:=[4,18]) (by kernel_rfl) (by simp) ?_
  refine AllReadyH.cons rfl (fun K hK=>?_) (AllReadyH.cons rfl (fun K hK=>?_) AllReadyH.nil)
  ·
   go_simp
   refine hK.out _ _ hS (fun _=>?_)
   clear K hK
   try simp only [Act.put,π1,π2,π3,π4,π5,π6]
   refine tr 18 rfl (h:=fun K hK=>?_)
   go_simp
   go_wp2_with (go_at_call 114; refine (side_value e _ (HL.out.below hB) he).mono ?_;rintro e9 w10 ⟨rfl,hb9⟩;replace hS:=(show (fun W:World=>W.cell? ⟨b,off+1,none⟩=some (.string ⟨a.toArray⟩)∧W.cell? ⟨b,off+2,none⟩=some (.string ⟨c.toArray⟩)∧W.cell? ⟨b,off+3,none⟩=some (.string ⟨d.toArray⟩)∧W.cell? ⟨b,off+4,none⟩=some (.string ⟨e.toArray⟩)) w10 from ⟨((hb9.cell (p:=⟨b,off+1,none⟩) (Nat.lt_of_lt_of_le hbw1 hB.size)).trans hS.1),((hb9.cell (p:=⟨b,off+2,none⟩) (Nat.lt_of_lt_of_le hbw1 hB.size)).trans hS.2.1),((hb9.cell (p:=⟨b,off+3,none⟩) (Nat.lt_of_lt_of_le hbw1 hB.size)).trans hS.2.2.1),((hb9.cell (p:=⟨b,off+4,none⟩) (Nat.lt_of_lt_of_le hbw1 hB.size)).trans hS.2.2.2)⟩);dsimp only at hS;replace hcg:=(hb9.cell (p:=⟨g,1,none⟩) (Nat.lt_of_lt_of_le hgw hB.size)).trans hcg;replace hB:=hB.trans (hb9.mono hB.size);clear hb9)
   refine hK.out _ _ hS (fun _=>?_)
   clear K hK
   refine tk 19 (.agg #[.int .i64 (Sd.val a),.string ⟨c.toArray⟩,.string ⟨d.toArray⟩,.int .i64 (Sd.val e)]) rfl (h:=?_)
   try simp only [Act.put,π1,π2,π3,π4,π5,π6]
   refine tr 20 rfl (h:=fun K hK=>?_)
   go_simp
   have HX9:=η (HX.out.below hB);have hB9:=hB;have hS9:=hS
   obtain ⟨fl,hown,hrep⟩:=HX9.out.h
   have Hown:=η hown;have Hrep:=η hrep;clear hown hrep
   have hn:=below_new w10 (.cells #[.int .i64 (Sd.val a),.string ⟨c.toArray⟩,.string ⟨d.toArray⟩,.int .i64 (Sd.val e)] 129)
   replace hS:(fun W:World=>W.cell? ⟨b,off+1,none⟩=some (.string ⟨a.toArray⟩)∧W.cell? ⟨b,off+2,none⟩=some (.string ⟨c.toArray⟩)∧W.cell? ⟨b,off+3,none⟩=some (.string ⟨d.toArray⟩)∧W.cell? ⟨b,off+4,none⟩=some (.string ⟨e.toArray⟩)) (w10.alloc (.cells #[.int .i64 (Sd.val a),.string ⟨c.toArray⟩,.string ⟨d.toArray⟩,.int .i64 (Sd.val e)] 129)):=⟨((hn.cell (p:=⟨b,off+1,none⟩) (Nat.lt_of_lt_of_le hbw1 hB.size)).trans hS.1),((hn.cell (p:=⟨b,off+2,none⟩) (Nat.lt_of_lt_of_le hbw1 hB.size)).trans hS.2.1),((hn.cell (p:=⟨b,off+3,none⟩) (Nat.lt_of_lt_of_le hbw1 hB.size)).trans hS.2.2.1),((hn.cell (p:=⟨b,off+4,none⟩) (Nat.lt_of_lt_of_le hbw1 hB.size)).trans hS.2.2.2)⟩
   dsimp only at hS
   replace hcg:=(hn.cell (p:=⟨g,1,none⟩) (Nat.lt_of_lt_of_le hgw hB.size)).trans hcg
   replace hB:=hB.trans (hn.mono hB.size)
   clear hn
   refine hK.out _ _ hS (fun _=>?_)
   clear K hK
   try simp only [Act.put,π1,π2,π3,π4,π5,π6]
   refine tr 21 rfl (h:=fun K hK=>?_)
   rw [if_pos (by kernel_rfl)]
   refine wp_append1 (.tmp 8) (.tmp 24) 44 rfl B 129 i0 (.agg #[.int .i64 0,.string ⟨#[]⟩,.string ⟨#[]⟩,.int .i64 0]) 4 48 Tryz.underlying44 Hi.out Hz0.out Hz1.out Hz2.out (by rfl) (by decide) _ _ fl Hown.out rfl [.int .i64 (Sd.val a),.string ⟨c.toArray⟩,.string ⟨d.toArray⟩,.int .i64 (Sd.val e)] rfl rfl rfl (by simp [Value.oneCell']) (by unfold maxLen;omega) (by omega) HX9.out.sz ?_
   intro v2 w2 own2 g2 at2
   obtain ⟨p2,cap2,rfl,_,_⟩:=own2.form (Nat.succ_pos _)
   have hput:=SX.put1 (y:=⟨Sd.val a,c,d,Sd.val e⟩) HX9.out Hrep.out rfl own2 g2 (at2.imp (fun h=>h) (fun h=>⟨_,h,Nat.le_succ _⟩))
   have hne9:Value.ownBlock (.slice pv x.heads.length capv)≠some g:=fun e=>by have:=(Hown.out.lt g e).1;have:=HX9.out.lt;omega
   have hg9:=Nat.lt_of_lt_of_le HX9.out.lt HX9.out.sz
   have hcg2:=(grown_cell g2 hg9 hne9 1).trans HX9.out.c1
   have hfg2:=(grown_frozen g2 hg9 hne9 1).trans HX9.out.f1
   have hS2:(fun W:World=>W.cell? ⟨b,off+1,none⟩=some (.string ⟨a.toArray⟩)∧W.cell? ⟨b,off+2,none⟩=some (.string ⟨c.toArray⟩)∧W.cell? ⟨b,off+3,none⟩=some (.string ⟨d.toArray⟩)∧W.cell? ⟨b,off+4,none⟩=some (.string ⟨e.toArray⟩)) w2:=⟨(g2.cell (a:=⟨b,off+1,none⟩) hS9.1 (fun e=>HDb.out e.symm)),(g2.cell (a:=⟨b,off+2,none⟩) hS9.2.1 (fun e=>HDb.out e.symm)),(g2.cell (a:=⟨b,off+3,none⟩) hS9.2.2.1 (fun e=>HDb.out e.symm)),(g2.cell (a:=⟨b,off+4,none⟩) hS9.2.2.2 (fun e=>HDb.out e.symm))⟩
   dsimp only at hS2
   have Hput:=η hput;have Hbg:=η hbg
   clear hput own2 at2 hne9 hg9 hbg
   refine hK.out _ _ hS2 (fun _=>?_)
   clear K hK
   refine tk 22 (.pointer (some ⟨g,0,none⟩)) rfl (hy:=fun W hW=>by go_simp) (h:=?_)
   refine tk 23 (.pointer (some ⟨g,1,none⟩)) rfl (hy:=fun W hW=>by go_simp) (h:=?_)
   try simp only [Act.put,π1,π2,π3,π4,π5,π6]
   refine tr 24 rfl (h:=fun K hK=>?_)
   go_simp
   refine hK.out _ _ ⟨((World.cell?_setCell_other _ _ _ _ (fun e=>by injection e with e;exact Hbg.out e.symm)).trans hS2.1),((World.cell?_setCell_other _ _ _ _ (fun e=>by injection e with e;exact Hbg.out e.symm)).trans hS2.2.1),((World.cell?_setCell_other _ _ _ _ (fun e=>by injection e with e;exact Hbg.out e.symm)).trans hS2.2.2.1),((World.cell?_setCell_other _ _ _ _ (fun e=>by injection e with e;exact Hbg.out e.symm)).trans hS2.2.2.2)⟩ (fun _=>?_)
   clear K hK
   try simp only [Act.put,π1,π2,π3,π4,π5,π6]
   refine wpAnyH_done (by kernel_rfl) ?_ _
   go_wp2_with fail
   go_end0
   exact ⟨rfl,(Kept.below hB9 (Nat.le_of_lt HX.out.lt) HX.out.sz).trans Hput.out.2,_,_,_,_,Hput.out.1⟩
  ·
   go_simp
   go_wp2_with (go_at_call 114; refine (side_value e _ (HL.out.below hB) he).mono ?_;rintro e9 w10 ⟨rfl,hb9⟩;replace hS:=(show (fun W:World=>W.cell? ⟨b,off+1,none⟩=some (.string ⟨a.toArray⟩)∧W.cell? ⟨b,off+2,none⟩=some (.string ⟨c.toArray⟩)∧W.cell? ⟨b,off+3,none⟩=some (.string ⟨d.toArray⟩)∧W.cell? ⟨b,off+4,none⟩=some (.string ⟨e.toArray⟩)) w10 from ⟨((hb9.cell (p:=⟨b,off+1,none⟩) (Nat.lt_of_lt_of_le hbw1 hB.size)).trans hS.1),((hb9.cell (p:=⟨b,off+2,none⟩) (Nat.lt_of_lt_of_le hbw1 hB.size)).trans hS.2.1),((hb9.cell (p:=⟨b,off+3,none⟩) (Nat.lt_of_lt_of_le hbw1 hB.size)).trans hS.2.2.1),((hb9.cell (p:=⟨b,off+4,none⟩) (Nat.lt_of_lt_of_le hbw1 hB.size)).trans hS.2.2.2)⟩);dsimp only at hS;replace hcg:=(hb9.cell (p:=⟨g,1,none⟩) (Nat.lt_of_lt_of_le hgw hB.size)).trans hcg;replace hB:=hB.trans (hb9.mono hB.size);clear hb9)
   refine hK.out _ _ hS (fun _=>?_)
   clear K hK
   refine tk 19 (.agg #[.int .i64 (Sd.val a),.string ⟨c.toArray⟩,.string ⟨d.toArray⟩,.int .i64 (Sd.val e)]) rfl (h:=?_)
   try simp only [Act.put,π1,π2,π3,π4,π5,π6]
   refine wpAnyH_ready (rs:=[4,20]) (by kernel_rfl) (by simp) ?_
   refine AllReadyH.cons rfl (fun K hK=>?_) (AllReadyH.cons rfl (fun K hK=>?_) AllReadyH.nil)
   ·
    go_simp
    refine hK.out _ _ hS (fun _=>?_)
    clear K hK
    try simp only [Act.put,π1,π2,π3,π4,π5,π6]
    refine tr 20 rfl (h:=fun K hK=>?_)
    go_simp
    have HX9:=η (HX.out.below hB);have hB9:=hB;have hS9:=hS
    obtain ⟨fl,hown,hrep⟩:=HX9.out.h
    have Hown:=η hown;have Hrep:=η hrep;clear hown hrep
    have hn:=below_new w10 (.cells #[.int .i64 (Sd.val a),.string ⟨c.toArray⟩,.string ⟨d.toArray⟩,.int .i64 (Sd.val e)] 129)
    replace hS:(fun W:World=>W.cell? ⟨b,off+1,none⟩=some (.string ⟨a.toArray⟩)∧W.cell? ⟨b,off+2,none⟩=some (.string ⟨c.toArray⟩)∧W.cell? ⟨b,off+3,none⟩=some (.string ⟨d.toArray⟩)∧W.cell? ⟨b,off+4,none⟩=some (.string ⟨e.toArray⟩)) (w10.alloc (.cells #[.int .i64 (Sd.val a),.string ⟨c.toArray⟩,.string ⟨d.toArray⟩,.int .i64 (Sd.val e)] 129)):=⟨((hn.cell (p:=⟨b,off+1,none⟩) (Nat.lt_of_lt_of_le hbw1 hB.size)).trans hS.1),((hn.cell (p:=⟨b,off+2,none⟩) (Nat.lt_of_lt_of_le hbw1 hB.size)).trans hS.2.1),((hn.cell (p:=⟨b,off+3,none⟩) (Nat.lt_of_lt_of_le hbw1 hB.size)).trans hS.2.2.1),((hn.cell (p:=⟨b,off+4,none⟩) (Nat.lt_of_lt_of_le hbw1 hB.size)).trans hS.2.2.2)⟩
    dsimp only at hS
    replace hcg:=(hn.cell (p:=⟨g,1,none⟩) (Nat.lt_of_lt_of_le hgw hB.size)).trans hcg
    replace hB:=hB.trans (hn.mono hB.size)
    clear hn
    refine hK.out _ _ hS (fun _=>?_)
    clear K hK
    try simp only [Act.put,π1,π2,π3,π4,π5,π6]
    refine tr 21 rfl (h:=fun K hK=>?_)
    rw [if_pos (by kernel_rfl)]
    refine wp_append1 (.tmp 8) (.tmp 24) 44 rfl B 129 i0 (.agg #[.int .i64 0,.string ⟨#[]⟩,.string ⟨#[]⟩,.int .i64 0]) 4 48 Tryz.underlying44 Hi.out Hz0.out Hz1.out Hz2.out (by rfl) (by decide) _ _ fl Hown.out rfl [.int .i64 (Sd.val a),.string ⟨c.toArray⟩,.string ⟨d.toArray⟩,.int .i64 (Sd.val e)] rfl rfl rfl (by simp [Value.oneCell']) (by unfold maxLen;omega) (by omega) HX9.out.sz ?_
    intro v2 w2 own2 g2 at2
    obtain ⟨p2,cap2,rfl,_,_⟩:=own2.form (Nat.succ_pos _)
    have hput:=SX.put1 (y:=⟨Sd.val a,c,d,Sd.val e⟩) HX9.out Hrep.out rfl own2 g2 (at2.imp (fun h=>h) (fun h=>⟨_,h,Nat.le_succ _⟩))
    have hne9:Value.ownBlock (.slice pv x.heads.length capv)≠some g:=fun e=>by have:=(Hown.out.lt g e).1;have:=HX9.out.lt;omega
    have hg9:=Nat.lt_of_lt_of_le HX9.out.lt HX9.out.sz
    have hcg2:=(grown_cell g2 hg9 hne9 1).trans HX9.out.c1
    have hfg2:=(grown_frozen g2 hg9 hne9 1).trans HX9.out.f1
    have hS2:(fun W:World=>W.cell? ⟨b,off+1,none⟩=some (.string ⟨a.toArray⟩)∧W.cell? ⟨b,off+2,none⟩=some (.string ⟨c.toArray⟩)∧W.cell? ⟨b,off+3,none⟩=some (.string ⟨d.toArray⟩)∧W.cell? ⟨b,off+4,none⟩=some (.string ⟨e.toArray⟩)) w2:=⟨(g2.cell (a:=⟨b,off+1,none⟩) hS9.1 (fun e=>HDb.out e.symm)),(g2.cell (a:=⟨b,off+2,none⟩) hS9.2.1 (fun e=>HDb.out e.symm)),(g2.cell (a:=⟨b,off+3,none⟩) hS9.2.2.1 (fun e=>HDb.out e.symm)),(g2.cell (a:=⟨b,off+4,none⟩) hS9.2.2.2 (fun e=>HDb.out e.symm))⟩
    dsimp only at hS2
    have Hput:=η hput;have Hbg:=η hbg
    clear hput own2 at2 hne9 hg9 hbg
    refine hK.out _ _ hS2 (fun _=>?_)
    clear K hK
    refine tk 22 (.pointer (some ⟨g,0,none⟩)) rfl (hy:=fun W hW=>by go_simp) (h:=?_)
    refine tk 23 (.pointer (some ⟨g,1,none⟩)) rfl (hy:=fun W hW=>by go_simp) (h:=?_)
    try simp only [Act.put,π1,π2,π3,π4,π5,π6]
    refine tr 24 rfl (h:=fun K hK=>?_)
    go_simp
    refine hK.out _ _ ⟨((World.cell?_setCell_other _ _ _ _ (fun e=>by injection e with e;exact Hbg.out e.symm)).trans hS2.1),((World.cell?_setCell_other _ _ _ _ (fun e=>by injection e with e;exact Hbg.out e.symm)).trans hS2.2.1),((World.cell?_setCell_other _ _ _ _ (fun e=>by injection e with e;exact Hbg.out e.symm)).trans hS2.2.2.1),((World.cell?_setCell_other _ _ _ _ (fun e=>by injection e with e;exact Hbg.out e.symm)).trans hS2.2.2.2)⟩ (fun _=>?_)
    clear K hK
    try simp only [Act.put,π1,π2,π3,π4,π5,π6]
    refine wpAnyH_done (by kernel_rfl) ?_ _
    go_wp2_with fail
    go_end0
    exact ⟨rfl,(Kept.below hB9 (Nat.le_of_lt HX.out.lt) HX.out.sz).trans Hput.out.2,_,_,_,_,Hput.out.1⟩
   ·
    go_simp
    have HX9:=η (HX.out.below hB);have hB9:=hB;have hS9:=hS
    obtain ⟨fl,hown,hrep⟩:=HX9.out.h
    have Hown:=η hown;have Hrep:=η hrep;clear hown hrep
    have hn:=below_new w10 (.cells #[.int .i64 (Sd.val a),.string ⟨c.toArray⟩,.string ⟨d.toArray⟩,.int .i64 (Sd.val e)] 129)
    replace hS:(fun W:World=>W.cell? ⟨b,off+1,none⟩=some (.string ⟨a.toArray⟩)∧W.cell? ⟨b,off+2,none⟩=some (.string ⟨c.toArray⟩)∧W.cell? ⟨b,off+3,none⟩=some (.string ⟨d.toArray⟩)∧W.cell? ⟨b,off+4,none⟩=some (.string ⟨e.toArray⟩)) (w10.alloc (.cells #[.int .i64 (Sd.val a),.string ⟨c.toArray⟩,.string ⟨d.toArray⟩,.int .i64 (Sd.val e)] 129)):=⟨((hn.cell (p:=⟨b,off+1,none⟩) (Nat.lt_of_lt_of_le hbw1 hB.size)).trans hS.1),((hn.cell (p:=⟨b,off+2,none⟩) (Nat.lt_of_lt_of_le hbw1 hB.size)).trans hS.2.1),((hn.cell (p:=⟨b,off+3,none⟩) (Nat.lt_of_lt_of_le hbw1 hB.size)).trans hS.2.2.1),((hn.cell (p:=⟨b,off+4,none⟩) (Nat.lt_of_lt_of_le hbw1 hB.size)).trans hS.2.2.2)⟩
    dsimp only at hS
    replace hcg:=(hn.cell (p:=⟨g,1,none⟩) (Nat.lt_of_lt_of_le hgw hB.size)).trans hcg
    replace hB:=hB.trans (hn.mono hB.size)
    clear hn
    refine hK.out _ _ hS (fun _=>?_)
    clear K hK
    try simp only [Act.put,π1,π2,π3,π4,π5,π6]
    refine tr 4 rfl (h:=fun K hK=>?_)
    go_simp
    refine hK.out _ _ hS (fun _=>?_)
    clear K hK
    try simp only [Act.put,π1,π2,π3,π4,π5,π6]
    refine tr 21 rfl (h:=fun K hK=>?_)
    rw [if_pos (by kernel_rfl)]
    refine wp_append1 (.tmp 8) (.tmp 24) 44 rfl B 129 i0 (.agg #[.int .i64 0,.string ⟨#[]⟩,.string ⟨#[]⟩,.int .i64 0]) 4 48 Tryz.underlying44 Hi.out Hz0.out Hz1.out Hz2.out (by rfl) (by decide) _ _ fl Hown.out rfl [.int .i64 (Sd.val a),.string ⟨c.toArray⟩,.string ⟨d.toArray⟩,.int .i64 (Sd.val e)] rfl rfl rfl (by simp [Value.oneCell']) (by unfold maxLen;omega) (by omega) HX9.out.sz ?_
    intro v2 w2 own2 g2 at2
    obtain ⟨p2,cap2,rfl,_,_⟩:=own2.form (Nat.succ_pos _)
    have hput:=SX.put1 (y:=⟨Sd.val a,c,d,Sd.val e⟩) HX9.out Hrep.out rfl own2 g2 (at2.imp (fun h=>h) (fun h=>⟨_,h,Nat.le_succ _⟩))
    have hne9:Value.ownBlock (.slice pv x.heads.length capv)≠some g:=fun e=>by have:=(Hown.out.lt g e).1;have:=HX9.out.lt;omega
    have hg9:=Nat.lt_of_lt_of_le HX9.out.lt HX9.out.sz
    have hcg2:=(grown_cell g2 hg9 hne9 1).trans HX9.out.c1
    have hfg2:=(grown_frozen g2 hg9 hne9 1).trans HX9.out.f1
    have hS2:(fun W:World=>W.cell? ⟨b,off+1,none⟩=some (.string ⟨a.toArray⟩)∧W.cell? ⟨b,off+2,none⟩=some (.string ⟨c.toArray⟩)∧W.cell? ⟨b,off+3,none⟩=some (.string ⟨d.toArray⟩)∧W.cell? ⟨b,off+4,none⟩=some (.string ⟨e.toArray⟩)) w2:=⟨(g2.cell (a:=⟨b,off+1,none⟩) hS9.1 (fun e=>HDb.out e.symm)),(g2.cell (a:=⟨b,off+2,none⟩) hS9.2.1 (fun e=>HDb.out e.symm)),(g2.cell (a:=⟨b,off+3,none⟩) hS9.2.2.1 (fun e=>HDb.out e.symm)),(g2.cell (a:=⟨b,off+4,none⟩) hS9.2.2.2 (fun e=>HDb.out e.symm))⟩
    dsimp only at hS2
    have Hput:=η hput;have Hbg:=η hbg
    clear hput own2 at2 hne9 hg9 hbg
    refine hK.out _ _ hS2 (fun _=>?_)
    clear K hK
    refine tk 22 (.pointer (some ⟨g,0,none⟩)) rfl (hy:=fun W hW=>by go_simp) (h:=?_)
    refine tk 23 (.pointer (some ⟨g,1,none⟩)) rfl (hy:=fun W hW=>by go_simp) (h:=?_)
    try simp only [Act.put,π1,π2,π3,π4,π5,π6]
    refine tr 24 rfl (h:=fun K hK=>?_)
    go_simp
    refine hK.out _ _ ⟨((World.cell?_setCell_other _ _ _ _ (fun e=>by injection e with e;exact Hbg.out e.symm)).trans hS2.1),((World.cell?_setCell_other _ _ _ _ (fun e=>by injection e with e;exact Hbg.out e.symm)).trans hS2.2.1),((World.cell?_setCell_other _ _ _ _ (fun e=>by injection e with e;exact Hbg.out e.symm)).trans hS2.2.2.1),((World.cell?_setCell_other _ _ _ _ (fun e=>by injection e with e;exact Hbg.out e.symm)).trans hS2.2.2.2)⟩ (fun _=>?_)
    clear K hK
    try simp only [Act.put,π1,π2,π3,π4,π5,π6]
    refine wpAnyH_done (by kernel_rfl) ?_ _
    go_wp2_with fail
    go_end0
    exact ⟨rfl,(Kept.below hB9 (Nat.le_of_lt HX.out.lt) HX.out.sz).trans Hput.out.2,_,_,_,_,Hput.out.1⟩
set_option maxRecDepth 100000 in
set_option maxHeartbeats 3200000 in
theorem side_reader3 (g B:Nat) (x:Sd.Side) (vl vh vc vb v:Value) (w0 a:List UInt8) (S:Nat→Prop) (w:World) (hL:Laid10 w) (hX:SX g B w x vl vh vc vb) (hV:SliceIn S 1 RStr w v [w0,a]) (hD:∀j,S j→vc.ownBlock≠some j∧j≠g) (hx:x.cites.length≤1000000) :
  Calls Tryz.prog 116 #[.pointer (some ⟨g,0,none⟩),v] w (ReadPost g B w { x with cites:=x.cites++[a] }):=by
 obtain ⟨p,cap,rfl,_,_,hat⟩:=hV
 obtain ⟨b,off,vs1,rfl,hSb1,hbw1,hR1,hcc1⟩:=hat 1 a rfl
 have hR1:vs1=_:=hR1
 subst hR1
 have e1:w.cell? ⟨b,off+1,none⟩=some (.string ⟨a.toArray⟩):=hcc1 0 _ rfl
 have hgw:g<w.heap.size:=Nat.lt_of_lt_of_le hX.lt hX.sz
 have hDb:=(hD b hSb1).1
 have hbg:=(hD b hSb1).2
 have HX:=η hX;have HL:=η hL;have HDb:=η hDb
 have cg:=hX.c2
 obtain ⟨i0,hi,hz0,hz1,hz2⟩:=info_parts str_info
 have Hi:=η hi;have Hz0:=η hz0;have Hz1:=η hz1;have Hz2:=η hz2;clear hi hz0 hz1 hz2
 obtain ⟨pv,capv,hfv⟩:=hX.c.form
 subst hfv
 clear hX hL hat hD hDb hcc1 
 go_enter Tryz.func116, Tryz.ntmps116
 refine wp_region_any (by kernel_rfl) ?_
 change wpAny _ _ _ _ _ _ _ (World.drew _)
 have hB:Below w.heap.size w w.drew:=(Below.refl _ _).drew
 have hS:(fun W:World=>W.cell? ⟨b,off+1,none⟩=some (.string ⟨a.toArray⟩)) w.drew:=e1
 dsimp only at hS
 have hcg:w.drew.cell? ⟨g,2,none⟩=some (.slice pv x.cites.length capv):=cg
 generalize w.drew=w8 at hS hB hcg ⊢
 refine wpAny_of_held (S:=fun W=>W.cell? ⟨b,off+1,none⟩=some (.string ⟨a.toArray⟩)) _ _ _ _ ?_
 refine tk 0 (.pointer (some ⟨g,0,none⟩)) rfl (h:=?_)
 refine tk 1 (.pointer (some ⟨g,0,none⟩)) rfl (h:=?_)
 refine tk 2 (.pointer (some ⟨g,0,none⟩)) rfl (hy:=fun W hW=>by go_simp) (h:=?_)
 refine tk 3 (.pointer (some ⟨g,2,none⟩)) rfl (hy:=fun W hW=>by go_simp) (h:=?_)
 refine tk 5 (.slice (some ⟨b,off,none⟩) 2 cap) rfl (h:=?_)
 refine tk 6 (.pointer (some ⟨b,off+1,none⟩)) rfl (hy:=fun W hW=>by go_simp) (h:=?_)
 refine tk 7 (.string ⟨a.toArray⟩) rfl (hy:=fun W hW=>by have q1:=hW;go_simp) (h:=?_)
 try simp only [Act.put,π1,π2,π3,π4,π5,π6]
 refine wpAnyH_ready (rs:=[4,8]) (by kernel_rfl) (by simp) ?_
 refine AllReadyH.cons rfl (fun K hK=>?_) (AllReadyH.cons rfl (fun K hK=>?_) AllReadyH.nil)
 ·
  go_simp
  refine hK.out _ _ hS (fun _=>?_)
  clear K hK
  try simp only [Act.put,π1,π2,π3,π4,π5,π6]
  refine tr 8 rfl (h:=fun K hK=>?_)
  go_simp
  have HX9:=η (HX.out.below hB);have hB9:=hB;have hS9:=hS
  obtain ⟨fl,hown,hrep⟩:=HX9.out.c
  have Hown:=η hown;have Hrep:=η hrep;clear hown hrep
  have hn:=below_new w8 (.cells #[.string ⟨a.toArray⟩] 9)
  replace hS:(fun W:World=>W.cell? ⟨b,off+1,none⟩=some (.string ⟨a.toArray⟩)) (w8.alloc (.cells #[.string ⟨a.toArray⟩] 9)):=((hn.cell (p:=⟨b,off+1,none⟩) (Nat.lt_of_lt_of_le hbw1 hB.size)).trans hS)
  dsimp only at hS
  replace hcg:=(hn.cell (p:=⟨g,2,none⟩) (Nat.lt_of_lt_of_le hgw hB.size)).trans hcg
  replace hB:=hB.trans (hn.mono hB.size)
  clear hn
  refine hK.out _ _ hS (fun _=>?_)
  clear K hK
  try simp only [Act.put,π1,π2,π3,π4,π5,π6]
  refine tr 9 rfl (h:=fun K hK=>?_)
  rw [if_pos (by kernel_rfl)]
  refine wp_append1 (.tmp 8) (.tmp 12) 24 rfl B 9 i0 (.string ⟨#[]⟩) 1 16 Tryz.underlying24 Hi.out Hz0.out Hz1.out Hz2.out (by rfl) (by decide) _ _ fl Hown.out rfl [.string ⟨a.toArray⟩] rfl rfl rfl (by simp [Value.oneCell']) (by unfold maxLen;omega) (by omega) HX9.out.sz ?_
  intro v2 w2 own2 g2 at2
  obtain ⟨p2,cap2,rfl,_,_⟩:=own2.form (Nat.succ_pos _)
  have hput:=SX.put2 (y:=a) HX9.out Hrep.out rfl own2 g2 (at2.imp (fun h=>h) (fun h=>⟨_,h,Nat.le_succ _⟩))
  have hne9:Value.ownBlock (.slice pv x.cites.length capv)≠some g:=fun e=>by have:=(Hown.out.lt g e).1;have:=HX9.out.lt;omega
  have hg9:=Nat.lt_of_lt_of_le HX9.out.lt HX9.out.sz
  have hcg2:=(grown_cell g2 hg9 hne9 2).trans HX9.out.c2
  have hfg2:=(grown_frozen g2 hg9 hne9 2).trans HX9.out.f2
  have hS2:(fun W:World=>W.cell? ⟨b,off+1,none⟩=some (.string ⟨a.toArray⟩)) w2:=(g2.cell (a:=⟨b,off+1,none⟩) hS9 (fun e=>HDb.out e.symm))
  dsimp only at hS2
  have Hput:=η hput;have Hbg:=η hbg
  clear hput own2 at2 hne9 hg9 hbg
  refine hK.out _ _ hS2 (fun _=>?_)
  clear K hK
  refine tk 10 (.pointer (some ⟨g,0,none⟩)) rfl (hy:=fun W hW=>by go_simp) (h:=?_)
  refine tk 11 (.pointer (some ⟨g,2,none⟩)) rfl (hy:=fun W hW=>by go_simp) (h:=?_)
  try simp only [Act.put,π1,π2,π3,π4,π5,π6]
  refine tr 12 rfl (h:=fun K hK=>?_)
  go_simp
  refine hK.out _ _ ((World.cell?_setCell_other _ _ _ _ (fun e=>by injection e with e;exact Hbg.out e.symm)).trans hS2) (fun _=>?_)
  clear K hK
  try simp only [Act.put,π1,π2,π3,π4,π5,π6]
  refine wpAnyH_done (by kernel_rfl) ?_ _
  go_wp2_with fail
  go_end0
  exact ⟨rfl,(Kept.below hB9 (Nat.le_of_lt HX.out.lt) HX.out.sz).trans Hput.out.2,_,_,_,_,Hput.out.1⟩
 ·
  go_simp
  have HX9:=η (HX.out.below hB);have hB9:=hB;have hS9:=hS
  obtain ⟨fl,hown,hrep⟩:=HX9.out.c
  have Hown:=η hown;have Hrep:=η hrep;clear hown hrep
  have hn:=below_new w8 (.cells #[.string ⟨a.toArray⟩] 9)
  replace hS:(fun W:World=>W.cell? ⟨b,off+1,none⟩=some (.string ⟨a.toArray⟩)) (w8.alloc (.cells #[.string ⟨a.toArray⟩] 9)):=((hn.cell (p:=⟨b,off+1,none⟩) (Nat.lt_of_lt_of_le hbw1 hB.size)).trans hS)
  dsimp only at hS
  replace hcg:=(hn.cell (p:=⟨g,2,none⟩) (Nat.lt_of_lt_of_le hgw hB.size)).trans hcg
  replace hB:=hB.trans (hn.mono hB.size)
  clear hn
  refine hK.out _ _ hS (fun _=>?_)
  clear K hK
  try simp only [Act.put,π1,π2,π3,π4,π5,π6]
  refine tr 4 rfl (h:=fun K hK=>?_)
  go_simp
  refine hK.out _ _ hS (fun _=>?_)
  clear K hK
  try simp only [Act.put,π1,π2,π3,π4,π5,π6]
  refine tr 9 rfl (h:=fun K hK=>?_)
  rw [if_pos (by kernel_rfl)]
  refine wp_append1 (.tmp 8) (.tmp 12) 24 rfl B 9 i0 (.string ⟨#[]⟩) 1 16 Tryz.underlying24 Hi.out Hz0.out Hz1.out Hz2.out (by rfl) (by decide) _ _ fl Hown.out rfl [.string ⟨a.toArray⟩] rfl rfl rfl (by simp [Value.oneCell']) (by unfold maxLen;omega) (by omega) HX9.out.sz ?_
  intro v2 w2 own2 g2 at2
  obtain ⟨p2,cap2,rfl,_,_⟩:=own2.form (Nat.succ_pos _)
  have hput:=SX.put2 (y:=a) HX9.out Hrep.out rfl own2 g2 (at2.imp (fun h=>h) (fun h=>⟨_,h,Nat.le_succ _⟩))
  have hne9:Value.ownBlock (.slice pv x.cites.length capv)≠some g:=fun e=>by have:=(Hown.out.lt g e).1;have:=HX9.out.lt;omega
  have hg9:=Nat.lt_of_lt_of_le HX9.out.lt HX9.out.sz
  have hcg2:=(grown_cell g2 hg9 hne9 2).trans HX9.out.c2
  have hfg2:=(grown_frozen g2 hg9 hne9 2).trans HX9.out.f2
  have hS2:(fun W:World=>W.cell? ⟨b,off+1,none⟩=some (.string ⟨a.toArray⟩)) w2:=(g2.cell (a:=⟨b,off+1,none⟩) hS9 (fun e=>HDb.out e.symm))
  dsimp only at hS2
  have Hput:=η hput;have Hbg:=η hbg
  clear hput own2 at2 hne9 hg9 hbg
  refine hK.out _ _ hS2 (fun _=>?_)
  clear K hK
  refine tk 10 (.pointer (some ⟨g,0,none⟩)) rfl (hy:=fun W hW=>by go_simp) (h:=?_)
  refine tk 11 (.pointer (some ⟨g,2,none⟩)) rfl (hy:=fun W hW=>by go_simp) (h:=?_)
  try simp only [Act.put,π1,π2,π3,π4,π5,π6]
  refine tr 12 rfl (h:=fun K hK=>?_)
  go_simp
  refine hK.out _ _ ((World.cell?_setCell_other _ _ _ _ (fun e=>by injection e with e;exact Hbg.out e.symm)).trans hS2) (fun _=>?_)
  clear K hK
  try simp only [Act.put,π1,π2,π3,π4,π5,π6]
  refine wpAnyH_done (by kernel_rfl) ?_ _
  go_wp2_with fail
  go_end0
  exact ⟨rfl,(Kept.below hB9 (Nat.le_of_lt HX.out.lt) HX.out.sz).trans Hput.out.2,_,_,_,_,Hput.out.1⟩
set_option maxRecDepth 100000 in
set_option maxHeartbeats 3200000 in
theorem side_reader4 (g B:Nat) (x:Sd.Side) (vl vh vc vb v:Value) (w0 a:List UInt8) (S:Nat→Prop) (w:World) (hL:Laid10 w) (hX:SX g B w x vl vh vc vb) (hV:SliceIn S 1 RStr w v [w0,a]) (hD:∀j,S j→vb.ownBlock≠some j∧j≠g) (hx:x.bibs.length≤1000000) :
  Calls Tryz.prog 117 #[.pointer (some ⟨g,0,none⟩),v] w (ReadPost g B w { x with bibs:=x.bibs++[a] }):=by
 obtain ⟨p,cap,rfl,_,_,hat⟩:=hV
 obtain ⟨b,off,vs1,rfl,hSb1,hbw1,hR1,hcc1⟩:=hat 1 a rfl
 have hR1:vs1=_:=hR1
 subst hR1
 have e1:w.cell? ⟨b,off+1,none⟩=some (.string ⟨a.toArray⟩):=hcc1 0 _ rfl
 have hgw:g<w.heap.size:=Nat.lt_of_lt_of_le hX.lt hX.sz
 have hDb:=(hD b hSb1).1
 have hbg:=(hD b hSb1).2
 have HX:=η hX;have HL:=η hL;have HDb:=η hDb
 have cg:=hX.c3
 obtain ⟨i0,hi,hz0,hz1,hz2⟩:=info_parts str_info
 have Hi:=η hi;have Hz0:=η hz0;have Hz1:=η hz1;have Hz2:=η hz2;clear hi hz0 hz1 hz2
 obtain ⟨pv,capv,hfv⟩:=hX.b.form
 subst hfv
 clear hX hL hat hD hDb hcc1 
 go_enter Tryz.func117, Tryz.ntmps117
 refine wp_region_any (by kernel_rfl) ?_
 change wpAny _ _ _ _ _ _ _ (World.drew _)
 have hB:Below w.heap.size w w.drew:=(Below.refl _ _).drew
 have hS:(fun W:World=>W.cell? ⟨b,off+1,none⟩=some (.string ⟨a.toArray⟩)) w.drew:=e1
 dsimp only at hS
 have hcg:w.drew.cell? ⟨g,3,none⟩=some (.slice pv x.bibs.length capv):=cg
 generalize w.drew=w8 at hS hB hcg ⊢
 refine wpAny_of_held (S:=fun W=>W.cell? ⟨b,off+1,none⟩=some (.string ⟨a.toArray⟩)) _ _ _ _ ?_
 refine tk 0 (.pointer (some ⟨g,0,none⟩)) rfl (h:=?_)
 refine tk 1 (.pointer (some ⟨g,0,none⟩)) rfl (h:=?_)
 refine tk 2 (.pointer (some ⟨g,0,none⟩)) rfl (hy:=fun W hW=>by go_simp) (h:=?_)
 refine tk 3 (.pointer (some ⟨g,3,none⟩)) rfl (hy:=fun W hW=>by go_simp) (h:=?_)
 refine tk 5 (.slice (some ⟨b,off,none⟩) 2 cap) rfl (h:=?_)
 refine tk 6 (.pointer (some ⟨b,off+1,none⟩)) rfl (hy:=fun W hW=>by go_simp) (h:=?_)
 refine tk 7 (.string ⟨a.toArray⟩) rfl (hy:=fun W hW=>by have q1:=hW;go_simp) (h:=?_)
 try simp only [Act.put,π1,π2,π3,π4,π5,π6]
 refine wpAnyH_ready (rs:=[4,8]) (by kernel_rfl) (by simp) ?_
 refine AllReadyH.cons rfl (fun K hK=>?_) (AllReadyH.cons rfl (fun K hK=>?_) AllReadyH.nil)
 ·
  go_simp
  refine hK.out _ _ hS (fun _=>?_)
  clear K hK
  try simp only [Act.put,π1,π2,π3,π4,π5,π6]
  refine tr 8 rfl (h:=fun K hK=>?_)
  go_simp
  have HX9:=η (HX.out.below hB);have hB9:=hB;have hS9:=hS
  obtain ⟨fl,hown,hrep⟩:=HX9.out.b
  have Hown:=η hown;have Hrep:=η hrep;clear hown hrep
  have hn:=below_new w8 (.cells #[.string ⟨a.toArray⟩] 9)
  replace hS:(fun W:World=>W.cell? ⟨b,off+1,none⟩=some (.string ⟨a.toArray⟩)) (w8.alloc (.cells #[.string ⟨a.toArray⟩] 9)):=((hn.cell (p:=⟨b,off+1,none⟩) (Nat.lt_of_lt_of_le hbw1 hB.size)).trans hS)
  dsimp only at hS
  replace hcg:=(hn.cell (p:=⟨g,3,none⟩) (Nat.lt_of_lt_of_le hgw hB.size)).trans hcg
  replace hB:=hB.trans (hn.mono hB.size)
  clear hn
  refine hK.out _ _ hS (fun _=>?_)
  clear K hK
  try simp only [Act.put,π1,π2,π3,π4,π5,π6]
  refine tr 9 rfl (h:=fun K hK=>?_)
  rw [if_pos (by kernel_rfl)]
  refine wp_append1 (.tmp 8) (.tmp 12) 24 rfl B 9 i0 (.string ⟨#[]⟩) 1 16 Tryz.underlying24 Hi.out Hz0.out Hz1.out Hz2.out (by rfl) (by decide) _ _ fl Hown.out rfl [.string ⟨a.toArray⟩] rfl rfl rfl (by simp [Value.oneCell']) (by unfold maxLen;omega) (by omega) HX9.out.sz ?_
  intro v2 w2 own2 g2 at2
  obtain ⟨p2,cap2,rfl,_,_⟩:=own2.form (Nat.succ_pos _)
  have hput:=SX.put3 (y:=a) HX9.out Hrep.out rfl own2 g2 (at2.imp (fun h=>h) (fun h=>⟨_,h,Nat.le_succ _⟩))
  have hne9:Value.ownBlock (.slice pv x.bibs.length capv)≠some g:=fun e=>by have:=(Hown.out.lt g e).1;have:=HX9.out.lt;omega
  have hg9:=Nat.lt_of_lt_of_le HX9.out.lt HX9.out.sz
  have hcg2:=(grown_cell g2 hg9 hne9 3).trans HX9.out.c3
  have hfg2:=(grown_frozen g2 hg9 hne9 3).trans HX9.out.f3
  have hS2:(fun W:World=>W.cell? ⟨b,off+1,none⟩=some (.string ⟨a.toArray⟩)) w2:=(g2.cell (a:=⟨b,off+1,none⟩) hS9 (fun e=>HDb.out e.symm))
  dsimp only at hS2
  have Hput:=η hput;have Hbg:=η hbg
  clear hput own2 at2 hne9 hg9 hbg
  refine hK.out _ _ hS2 (fun _=>?_)
  clear K hK
  refine tk 10 (.pointer (some ⟨g,0,none⟩)) rfl (hy:=fun W hW=>by go_simp) (h:=?_)
  refine tk 11 (.pointer (some ⟨g,3,none⟩)) rfl (hy:=fun W hW=>by go_simp) (h:=?_)
  try simp only [Act.put,π1,π2,π3,π4,π5,π6]
  refine tr 12 rfl (h:=fun K hK=>?_)
  go_simp
  refine hK.out _ _ ((World.cell?_setCell_other _ _ _ _ (fun e=>by injection e with e;exact Hbg.out e.symm)).trans hS2) (fun _=>?_)
  clear K hK
  try simp only [Act.put,π1,π2,π3,π4,π5,π6]
  refine wpAnyH_done (by kernel_rfl) ?_ _
  go_wp2_with fail
  go_end0
  exact ⟨rfl,(Kept.below hB9 (Nat.le_of_lt HX.out.lt) HX.out.sz).trans Hput.out.2,_,_,_,_,Hput.out.1⟩
 ·
  go_simp
  have HX9:=η (HX.out.below hB);have hB9:=hB;have hS9:=hS
  obtain ⟨fl,hown,hrep⟩:=HX9.out.b
  have Hown:=η hown;have Hrep:=η hrep;clear hown hrep
  have hn:=below_new w8 (.cells #[.string ⟨a.toArray⟩] 9)
  replace hS:(fun W:World=>W.cell? ⟨b,off+1,none⟩=some (.string ⟨a.toArray⟩)) (w8.alloc (.cells #[.string ⟨a.toArray⟩] 9)):=((hn.cell (p:=⟨b,off+1,none⟩) (Nat.lt_of_lt_of_le hbw1 hB.size)).trans hS)
  dsimp only at hS
  replace hcg:=(hn.cell (p:=⟨g,3,none⟩) (Nat.lt_of_lt_of_le hgw hB.size)).trans hcg
  replace hB:=hB.trans (hn.mono hB.size)
  clear hn
  refine hK.out _ _ hS (fun _=>?_)
  clear K hK
  try simp only [Act.put,π1,π2,π3,π4,π5,π6]
  refine tr 4 rfl (h:=fun K hK=>?_)
  go_simp
  refine hK.out _ _ hS (fun _=>?_)
  clear K hK
  try simp only [Act.put,π1,π2,π3,π4,π5,π6]
  refine tr 9 rfl (h:=fun K hK=>?_)
  rw [if_pos (by kernel_rfl)]
  refine wp_append1 (.tmp 8) (.tmp 12) 24 rfl B 9 i0 (.string ⟨#[]⟩) 1 16 Tryz.underlying24 Hi.out Hz0.out Hz1.out Hz2.out (by rfl) (by decide) _ _ fl Hown.out rfl [.string ⟨a.toArray⟩] rfl rfl rfl (by simp [Value.oneCell']) (by unfold maxLen;omega) (by omega) HX9.out.sz ?_
  intro v2 w2 own2 g2 at2
  obtain ⟨p2,cap2,rfl,_,_⟩:=own2.form (Nat.succ_pos _)
  have hput:=SX.put3 (y:=a) HX9.out Hrep.out rfl own2 g2 (at2.imp (fun h=>h) (fun h=>⟨_,h,Nat.le_succ _⟩))
  have hne9:Value.ownBlock (.slice pv x.bibs.length capv)≠some g:=fun e=>by have:=(Hown.out.lt g e).1;have:=HX9.out.lt;omega
  have hg9:=Nat.lt_of_lt_of_le HX9.out.lt HX9.out.sz
  have hcg2:=(grown_cell g2 hg9 hne9 3).trans HX9.out.c3
  have hfg2:=(grown_frozen g2 hg9 hne9 3).trans HX9.out.f3
  have hS2:(fun W:World=>W.cell? ⟨b,off+1,none⟩=some (.string ⟨a.toArray⟩)) w2:=(g2.cell (a:=⟨b,off+1,none⟩) hS9 (fun e=>HDb.out e.symm))
  dsimp only at hS2
  have Hput:=η hput;have Hbg:=η hbg
  clear hput own2 at2 hne9 hg9 hbg
  refine hK.out _ _ hS2 (fun _=>?_)
  clear K hK
  refine tk 10 (.pointer (some ⟨g,0,none⟩)) rfl (hy:=fun W hW=>by go_simp) (h:=?_)
  refine tk 11 (.pointer (some ⟨g,3,none⟩)) rfl (hy:=fun W hW=>by go_simp) (h:=?_)
  try simp only [Act.put,π1,π2,π3,π4,π5,π6]
  refine tr 12 rfl (h:=fun K hK=>?_)
  go_simp
  refine hK.out _ _ ((World.cell?_setCell_other _ _ _ _ (fun e=>by injection e with e;exact Hbg.out e.symm)).trans hS2) (fun _=>?_)
  clear K hK
  try simp only [Act.put,π1,π2,π3,π4,π5,π6]
  refine wpAnyH_done (by kernel_rfl) ?_ _
  go_wp2_with fail
  go_end0
  exact ⟨rfl,(Kept.below hB9 (Nat.le_of_lt HX.out.lt) HX.out.sz).trans Hput.out.2,_,_,_,_,Hput.out.1⟩
end Go.Proofs.YtgnfmopcialllaaGreatDoor
