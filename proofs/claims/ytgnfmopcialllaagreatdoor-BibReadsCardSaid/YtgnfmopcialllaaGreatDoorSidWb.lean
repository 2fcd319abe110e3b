/- The walks of package side (layer 10), eleventh part: the side of bytes. -/
import Derived.Test.YtgnfmopcialllaaGreatDoorTk
import Derived.Test.YtgnfmopcialllaaGreatDoorSidWa
set_option linter.unusedSimpArgs false
set_option linter.unusedVariables false
namespace Go.Proofs.YtgnfmopcialllaaGreatDoor
open Go.RowKit
theorem load_side (g:Nat) (a b c d:Value) (w:World) (h0:w.cell? ⟨g,0,none⟩=some a) (h1:w.cell? ⟨g,1,none⟩=some b) (h2:w.cell? ⟨g,2,none⟩=some c) (h3:w.cell? ⟨g,3,none⟩=some d) :
  (loadVar 46 ⟨g,0,none⟩).run Tryz.prog w = .ok (.agg #[a,b,c,d]) w:=by
 go_simp
theorem set4 (g:Nat) (w:World) {o0 o1 o2 o3:Value} (a b c d:Value) (d0:w.cell? ⟨g,0,none⟩=some o0) (d1:w.cell? ⟨g,1,none⟩=some o1) (d2:w.cell? ⟨g,2,none⟩=some o2) (d3:w.cell? ⟨g,3,none⟩=some o3) :
  ((((w.setCell ⟨g,0,none⟩ a).setCell ⟨g,1,none⟩ b).setCell ⟨g,2,none⟩ c).setCell ⟨g,3,none⟩ d).cell? ⟨g,0,none⟩=some a∧((((w.setCell ⟨g,0,none⟩ a).setCell ⟨g,1,none⟩ b).setCell ⟨g,2,none⟩ c).setCell ⟨g,3,none⟩ d).cell? ⟨g,1,none⟩=some b ∧
  ((((w.setCell ⟨g,0,none⟩ a).setCell ⟨g,1,none⟩ b).setCell ⟨g,2,none⟩ c).setCell ⟨g,3,none⟩ d).cell? ⟨g,2,none⟩=some c∧((((w.setCell ⟨g,0,none⟩ a).setCell ⟨g,1,none⟩ b).setCell ⟨g,2,none⟩ c).setCell ⟨g,3,none⟩ d).cell? ⟨g,3,none⟩=some d:=by
 obtain ⟨z0,z1,z2⟩:=set3 g w a b c d0 d1 d2
 refine ⟨?_,?_,?_,?_⟩
 ·
  rw [World.cell?_setCell_other _ _ _ _ (by simp)];exact z0
 ·
  rw [World.cell?_setCell_other _ _ _ _ (by simp)];exact z1
 ·
  rw [World.cell?_setCell_other _ _ _ _ (by simp)];exact z2
 ·
  exact World.cell?_setCell_same _ _ _ (by rw [World.cell?_setCell_other _ _ _ _ (by simp),World.cell?_setCell_other _ _ _ _ (by simp),World.cell?_setCell_other _ _ _ _ (by simp)];exact d3)
theorem set4_below {B g:Nat} {a0 w:World} (h:Below B a0 w) (hg:B≤g) (a b c d:Value):Below B a0 ((((w.setCell ⟨g,0,none⟩ a).setCell ⟨g,1,none⟩ b).setCell ⟨g,2,none⟩ c).setCell ⟨g,3,none⟩ d) :=
 (set3_below h hg a b c).setCell (p:=⟨g,3,none⟩) hg d
structure Grow (n N:Nat) (x:Sd.Side):Prop where
 labs:x.labs.length≤n
 heads:x.heads.length≤n
 cites:x.cites.length≤n
 bibs:x.bibs.length≤n
 lab:∀l ∈ x.labs,l.key.length≤N∧l.num.length≤N
 head:∀l ∈ x.heads,l.num.length≤N∧l.title.length≤N
 cite:∀l ∈ x.cites,l.length≤N
 bib:∀l ∈ x.bibs,l.length≤N
theorem Grow.sm {n N:Nat} {x:Sd.Side} (h:Grow n N x) (hn:n≤1000000) (hN:N≤1000000):SideSm x :=
 ⟨Nat.le_trans h.labs hn,Nat.le_trans h.heads hn,Nat.le_trans h.cites hn,Nat.le_trans h.bibs hn,fun l hl=>⟨Nat.le_trans (h.lab l hl).1 hN,Nat.le_trans (h.lab l hl).2 hN⟩,fun l hl=>⟨Nat.le_trans (h.head l hl).1 hN,Nat.le_trans (h.head l hl).2 hN⟩,fun l hl=>Nat.le_trans (h.cite l hl) hN,fun l hl=>Nat.le_trans (h.bib l hl) hN⟩
theorem mem_snoc {α:Type} {l:List α} {a b:α} (h:a ∈ l++[b]):a ∈ l∨a=b:=by
 rcases List.mem_append.1 h with h | h
 ·
  exact Or.inl h
 ·
  exact Or.inr (List.mem_singleton.1 h)
theorem Grow.labs1 {n N:Nat} {x:Sd.Side} (h:Grow n N x) (y:Sd.Lab) (h1:y.key.length≤N) (h2:y.num.length≤N):Grow (n+1) N { x with labs:=x.labs++[y] } :=
 ⟨by have:=h.labs;simp;omega,Nat.le_succ_of_le h.heads,Nat.le_succ_of_le h.cites,Nat.le_succ_of_le h.bibs,fun l hl=>(mem_snoc hl).elim (h.lab l) (fun e=>by rw [e];exact ⟨h1,h2⟩),h.head,h.cite,h.bib⟩
theorem Grow.heads1 {n N:Nat} {x:Sd.Side} (h:Grow n N x) (y:Sd.Hd) (h1:y.num.length≤N) (h2:y.title.length≤N):Grow (n+1) N { x with heads:=x.heads++[y] } :=
 ⟨Nat.le_succ_of_le h.labs,by have:=h.heads;simp;omega,Nat.le_succ_of_le h.cites,Nat.le_succ_of_le h.bibs,h.lab,fun l hl=>(mem_snoc hl).elim (h.head l) (fun e=>by rw [e];exact ⟨h1,h2⟩),h.cite,h.bib⟩
theorem Grow.cites1 {n N:Nat} {x:Sd.Side} (h:Grow n N x) (y:List UInt8) (h1:y.length≤N):Grow (n+1) N { x with cites:=x.cites++[y] } :=
 ⟨Nat.le_succ_of_le h.labs,Nat.le_succ_of_le h.heads,by have:=h.cites;simp;omega,Nat.le_succ_of_le h.bibs,h.lab,h.head,fun l hl=>(mem_snoc hl).elim (h.cite l) (fun e=>by rw [e];exact h1),h.bib⟩
theorem Grow.bibs1 {n N:Nat} {x:Sd.Side} (h:Grow n N x) (y:List UInt8) (h1:y.length≤N):Grow (n+1) N { x with bibs:=x.bibs++[y] } :=
 ⟨Nat.le_succ_of_le h.labs,Nat.le_succ_of_le h.heads,Nat.le_succ_of_le h.cites,by have:=h.bibs;simp;omega,h.lab,h.head,h.cite,fun l hl=>(mem_snoc hl).elim (h.bib l) (fun e=>by rw [e];exact h1)⟩
def DecPost (s:List UInt8) (w:World) (e:Ending) (w':World):Prop :=
 Below w.heap.size w w' ∧
 match Sd.dec s with
 | some x=>∃v,SideIn (fun j=>w.heap.size≤j) w' v x∧Grow s.length s.length x∧e = .returned (.tuple #[v,.int .i64 0])
 | none=>e = .returned (.tuple #[.agg #[.slice none 0 0,.slice none 0 0,.slice none 0 0,.slice none 0 0],.int .i64 5])
theorem store_func (w:World) (n:Int) (f:FuncId) (t:TypeId):(store ⟨w.heap.size,1,none⟩ (.func (.func f) #[] #[])).run Tryz.prog (w.alloc (.cells #[.int .i64 n,.nilFunc] t)) = .ok () (w.alloc (.cells #[.int .i64 n,.func (.func f) #[] #[]] t)):=by
 rw [run_store Tryz.prog _ _ _ _ (by rfl)]
 simp [World.setCell_alloc_new]
theorem store_nil (w:World) (n:Int) (t:TypeId):(store ⟨w.heap.size,1,none⟩ .nilFunc).run Tryz.prog (w.alloc (.cells #[.int .i64 n,.nilFunc] t)) = .ok () (w.alloc (.cells #[.int .i64 n,.nilFunc] t)):=by
 rw [run_store Tryz.prog _ _ _ _ (by rfl)]
 simp [World.setCell_alloc_new]
theorem OwnL.set {α:Type} {B:Nat} {t:TypeId} {n:Nat} {R:α→List Value→Prop} {W:World} {v:Value} {l:List α} (h:OwnL B t n R W v l) {g i:Nat} (u:Value) (hg:g<B):OwnL B t n R (W.setCell ⟨g,i,none⟩ u) v l :=
 h.grown (grown_set W g i u) (fun k hk e=>by have:=(h.ge k hk).1;have:=Option.some.inj e;omega)
theorem OwnL.set4 {α:Type} {B:Nat} {t:TypeId} {n:Nat} {R:α→List Value→Prop} {W:World} {v:Value} {l:List α} (h:OwnL B t n R W v l) {g:Nat} (a b c d:Value) (hg:g<B):OwnL B t n R ((((W.setCell ⟨g,0,none⟩ a).setCell ⟨g,1,none⟩ b).setCell ⟨g,2,none⟩ c).setCell ⟨g,3,none⟩ d) v l :=
 (((h.set a hg).set b hg).set c hg).set d hg
theorem zero_reader (w:World):(zeroValue 135).run Tryz.prog w = .ok (.agg #[.int .i64 0,.nilFunc]) w:=by kernel_rfl
theorem kept_map {g B:Nat} {a w:World} (h:Kept g B a w) {m:Nat} (hm:m<B) (hne:m≠g) {o:Option Obj} (ho:a.heap[m]? = o):w.heap[m]? = o:=(h.2 m hm hne).trans ho
set_option maxRecDepth 100000 in
set_option maxHeartbeats 3200000 in
theorem side_decode (s:List UInt8) (w:World) (hL:Laid10 w) (hs:s.length≤1000000) :
  Calls Tryz.prog 33 #[.string ⟨s.toArray⟩] w (DecPost s w):=by
 have HL:=η hL;clear hL
 have hdec:Sd.dec s=match Sd.all s with | none=>none | some ts=>match Sd.takeAll Sd.none_ ts with | none=>none | some x=>if Sd.right x&&Sd.encN x == s then some x else none:=rfl
 have Hdec:=η hdec;clear hdec
 go_enter Tryz.func33, Tryz.ntmps33
 go_upto_region 1 with fail
 obtain ⟨W1,hW1⟩:∃W1,W1=w.alloc (.cells #[.slice none 0 0,.slice none 0 0,.slice none 0 0,.slice none 0 0] 46):=⟨_,rfl⟩
 have hs1:W1.heap.size=w.heap.size+1:=by rw [hW1];simp
 have hb1:Below w.heap.size w W1:=by rw [hW1];exact below_new w _
 have hx1:∀(i:Nat) (u:Value),#[(.slice none 0 0:Value),.slice none 0 0,.slice none 0 0,.slice none 0 0][i]? = some u→W1.cell? ⟨w.heap.size,i,none⟩=some u:=by
  intro i u hu
  rw [hW1,cell_of_row _ _ _ _ _ _ (heap_alloc_new w _)]
  exact hu
 have hf1:∀i:Nat,W1.frozen? ⟨w.heap.size,i,none⟩=false:=by
  intro i
  rw [hW1]
  simp
 have hD:∀W,Below W1.heap.size W1 W→(∀(i:Nat) (u:Value),#[(.slice none 0 0:Value),.slice none 0 0,.slice none 0 0,.slice none 0 0][i]? = some u→W.cell? ⟨w.heap.size,i,none⟩=some u)∧∀i:Nat,W.frozen? ⟨w.heap.size,i,none⟩=false:=fun W hb =>
  ⟨fun i u hu=>(hb.cell (p:=⟨w.heap.size,i,none⟩) (by rw [hs1];show w.heap.size<_;omega)).trans (hx1 i u hu),fun i=>(frozen_below hb (by rw [hs1];omega)).trans (hf1 i)⟩
 rw [←hW1]
 have HD:=η hD;have Hb1:=η hb1;have Hs1:=η hs1
 clear hD hb1 hx1 hf1 hW1 hs1
 cases hall:Sd.all s with
 | none =>
  have Hall:=η hall
  have Hr:=η (show Sd.dec s=none by rw [Hdec.out,hall];first | done | rfl)
  clear hall
  go_upto_region 3 with (go_at_call 61; refine (wire_all s _ (HL.out.below Hb1.out) hs).mono ?_;rintro e w2 ⟨hb,hm⟩;rw [Hall.out] at hm;obtain ⟨er,h1,h2,rfl⟩:=hm;have HBx:=η hb;have her:(er != 0)=true:=(by simp;omega);clear hb)
  clear her
  have d0:=(HD.out _ HBx.out).1 0 _ rfl;have d1:=(HD.out _ HBx.out).1 1 _ rfl;have d2:=(HD.out _ HBx.out).1 2 _ rfl;have d3:=(HD.out _ HBx.out).1 3 _ rfl
  have f0:=(HD.out _ HBx.out).2 0;have f1:=(HD.out _ HBx.out).2 1;have f2:=(HD.out _ HBx.out).2 2;have f3:=(HD.out _ HBx.out).2 3
  go_wp2_with fail
  obtain ⟨z0,z1,z2,z3⟩:=set4 w.heap.size _ (.slice none 0 0) (.slice none 0 0) (.slice none 0 0) (.slice none 0 0) d0 d1 d2 d3
  refine ret_cell rfl rfl (load_side _ _ _ _ _ _ z0 z1 z2 z3) rfl ⟨set4_below (Hb1.out.trans (HBx.out.mono Hb1.out.size)) (Nat.le_refl _) _ _ _ _,?_⟩
  rw [Hr.out]
  rfl
 | some ts =>
  have Hall:=η hall
  have hdec2:Sd.dec s=match Sd.takeAll Sd.none_ ts with | none=>none | some x=>if Sd.right x&&Sd.encN x == s then some x else none:=by rw [Hdec.out,hall]
  have Hdec2:=η hdec2
  clear hall hdec2
  go_upto_region 4 with (go_at_call 61; refine (wire_all s _ (HL.out.below Hb1.out) hs).mono ?_;rintro e w2 ⟨hb,hm⟩;rw [Hall.out] at hm;obtain ⟨vt,hT,hts,htl,rfl⟩:=hm;have Hb2:=η hb;have HT:=η hT;have Hts:=η hts;clear hb hT hts)
  have hg2:W1.heap.size≤w2.heap.size:=Hb2.out.size
  have hTs:=HT.out.slice RStr.size (fun j=>True) (fun _ _=>trivial)
  have hTl:∀j,vt.ownBlock=some j→j<w2.heap.size:=fun j hj=>(HT.out.ge j hj).2
  obtain ⟨pt,ct,rfl⟩:=HT.out.form
  have HTs:=η hTs;have HTl:=η hTl
  clear hTs hTl
  go_upto_region 5 with fail
  obtain ⟨W3,hW3⟩:∃W3,W3=w2.alloc (.cells #[.slice none 0 0,.slice none 0 0,.slice none 0 0,.slice none 0 0] 46):=⟨_,rfl⟩
  have hs3:W3.heap.size=w2.heap.size+1:=by rw [hW3];simp
  have hb3:Below w2.heap.size w2 W3:=by rw [hW3];exact below_new w2 _
  have hx3:∀(i:Nat) (u:Value),#[(.slice none 0 0:Value),.slice none 0 0,.slice none 0 0,.slice none 0 0][i]? = some u→W3.cell? ⟨w2.heap.size,i,none⟩=some u:=by
   intro i u hu
   rw [hW3,cell_of_row _ _ _ _ _ _ (heap_alloc_new w2 _)]
   exact hu
  have hf3:∀i:Nat,W3.frozen? ⟨w2.heap.size,i,none⟩=false:=by
   intro i
   rw [hW3]
   simp
  rw [←hW3]
  have Hx3:=η hx3;have Hf3:=η hf3;have Hb3:=η hb3;have Hs3:=η hs3
  clear hx3 hf3 hb3 hW3 hs3
  go_upto_region 6 with (go_at_call 62; refine (side_readers _).mono ?_;rintro e w4 ⟨rfl,hb,hmp⟩;have Hb4:=η hb;have Hmp:=η hmp;clear hb hmp)
  obtain ⟨g,hg⟩:∃g,g=w2.heap.size:=⟨_,rfl⟩
  obtain ⟨m,hm⟩:∃m,m=W3.heap.size:=⟨_,rfl⟩
  have hmB:m<w4.heap.size:=by
   rcases Nat.lt_or_ge m w4.heap.size with h | h
   ·
    exact h
   ·
    have h2:=Hmp.out;rw [←hm,Array.getElem?_eq_none h] at h2;cases h2
  have hgm:g<m:=by rw [hg,hm,Hs3.out];omega
  have hSX:SX g w4.heap.size w4 Sd.none_ (.slice none 0 0) (.slice none 0 0) (.slice none 0 0) (.slice none 0 0):=by
   have hlt:g<W3.heap.size:=by rw [hg,Hs3.out];omega
   have hc:∀(i:Nat) (u:Value),#[(.slice none 0 0:Value),.slice none 0 0,.slice none 0 0,.slice none 0 0][i]? = some u→w4.cell? ⟨g,i,none⟩=some u:=fun i u hu=>(Hb4.out.cell (p:=⟨g,i,none⟩) hlt).trans (by rw [hg];exact Hx3.out i u hu)
   have hf:∀i:Nat,w4.frozen? ⟨g,i,none⟩=false:=fun i=>(frozen_below Hb4.out hlt).trans (by rw [hg];exact Hf3.out i)
   have hd:Dis (.slice none 0 0) (.slice none 0 0):=fun j hj=>by cases hj
   exact ⟨hc 0 _ rfl,hf 0,hc 1 _ rfl,hf 1,hc 2 _ rfl,hf 2,hc 3 _ rfl,hf 3,by omega,Nat.le_refl _,OwnL.nil _ _ _ _ _,OwnL.nil _ _ _ _ _,OwnL.nil _ _ _ _ _,OwnL.nil _ _ _ _ _,hd,hd,hd,hd,hd,hd⟩
  have hb24:Below g w2 w4:=by rw [hg];exact Hb3.out.trans (Hb4.out.mono Hb3.out.size)
  have hb14:Below W1.heap.size W1 w4:=Hb2.out.trans (hb24.mono (by omega))
  have hg1:W1.heap.size≤g:=by rw [hg];exact hg2
  have HTs4:=η (HTs.out.below' (show Below w2.heap.size w2 w4 by rw [←hg];exact hb24))
  have HSX:=η hSX;have Hb14:=η hb14;have Hg1:=η hg1;have HmB:=η hmB;have Hgm:=η hgm
  have HTl4:η HTl.out=η HTl.out:=rfl
  have Hmp4:=η (show w4.heap[m]? = some (.map rdEs 4) by rw [hm];exact Hmp.out)
  rw [←hg,←hm]
  have hgw:g<w4.heap.size:=by omega
  have Hgw:=η hgw
  have HTg:=η (show ∀j,(Value.slice pt ts.length ct).ownBlock=some j→j<g by rw [hg];exact HTl.out)
  clear hSX hb24 hb14 hg1 hg2 hmB hgm HTl4 HTs Hx3 Hf3 Hmp hgw hg hm
  have htl2:ts.length≤1000000:=by omega
  go_wp2_with fail
  go_loopw [27] (fun iv wr=>∃(k:Nat) (x:Sd.Side) (vl vh vc vb:Value),k≤ts.length∧iv = .int .i64 (k:Int)∧Sd.takeAll Sd.none_ ts=Sd.takeAll x (ts.drop k)∧SX g w4.heap.size wr x vl vh vc vb∧Kept g w4.heap.size w4 wr∧Grow k s.length x) (fun iv _=>ts.length - (intOf iv).toNat)
  case atStart=>exact ⟨0,Sd.none_,_,_,_,_,Nat.zero_le _,rfl,rfl,HSX.out,⟨Below.refl _ _,fun _ _ _=>rfl⟩,⟨by simp [Sd.none_],by simp [Sd.none_],by simp [Sd.none_],by simp [Sd.none_],by simp [Sd.none_],by simp [Sd.none_],by simp [Sd.none_],by simp [Sd.none_]⟩⟩
  case round =>
   clear HSX
   obtain ⟨k,x,vl,vh,vc,vb,hk,rfl,hta,hSX,hKp,hGr⟩:=hrel
   have Hta:=η hta;have HSX:=η hSX;have HKp:=η hKp;have HGr:=η hGr
   have HB:=η (Hb14.out.trans (hKp.1.mono Hg1.out))
   have HBw:=η (Hb1.out.trans (HB.out.mono Hb1.out.size))
   clear hta hSX hKp hGr
   by_cases hlt:k<ts.length
   ·
    obtain ⟨t,ht⟩:∃t,ts[k]? = some t:=⟨_,List.getElem?_eq_getElem hlt⟩
    obtain ⟨p',cap',hv',_,_,hat⟩:=HTs4.out
    obtain ⟨b,off,vs,hpb,_,hbw,hR,hcc⟩:=hat k t ht
    have hR:vs=_:=hR
    subst hR
    injection hv' with hv' _ hcap'
    subst hv'
    subst hcap'
    subst hpb
    have hbg:b<g:=HTg.out b rfl
    have a0:wr.cell? ⟨b,off+k,none⟩=some (.string ⟨t.toArray⟩):=by
     have:=(HKp.out.1.cell (p:=⟨b,off+(k*1+0),none⟩) hbg).trans (hcc 0 _ rfl)
     rwa [Nat.mul_one,Nat.add_zero] at this
    have hlt':(k:Int)<(ts.length:Int):=by omega
    have hkl:(k:Int)+1≤9223372036854775807:=by omega
    have hdrop:ts.drop k=t::ts.drop (k+1):=by
     obtain ⟨h1,h2⟩:=List.getElem?_eq_some_iff.1 ht
     rw [List.drop_eq_getElem_cons h1,h2]
    have hta2:Sd.takeAll Sd.none_ ts=match Sd.all t with | none=>none | some ps=>match Sd.take1 x ps with | none=>none | some y=>Sd.takeAll y (ts.drop (k+1)):=by rw [Hta.out,hdrop];rfl
    have htsz:=Hts.out t (List.mem_of_getElem? ht)
    have ht6:t.length≤1000000:=by omega
    have Hta2:=η hta2;have Htsz:=η htsz;have Ht6:=η ht6;have Hkl:=η hkl;have Hlt:=η hlt
    clear hat hcc ht hdrop hta2 htsz ht6 hkl hbw
    cases hat2:Sd.all t with
    | none =>
     have Hat:=η hat2
     have Hr:=η (show Sd.dec s=none by rw [Hdec2.out,Hta2.out,hat2];first | done | rfl)
     clear hat2
     go_upto_region 11 with (go_at_call 61; refine (wire_all t _ (HL.out.below HBw.out) Ht6.out).mono ?_;rintro e w6 ⟨hb,hm⟩;rw [Hat.out] at hm;obtain ⟨er,h1,h2,rfl⟩:=hm;have HBx:=η (HB.out.trans (hb.mono HB.out.size));have her:(er != 0)=true:=(by simp;omega);clear hb)
     clear her a0
     have d0:=(HD.out _ HBx.out).1 0 _ rfl;have d1:=(HD.out _ HBx.out).1 1 _ rfl;have d2:=(HD.out _ HBx.out).1 2 _ rfl;have d3:=(HD.out _ HBx.out).1 3 _ rfl
     have f0:=(HD.out _ HBx.out).2 0;have f1:=(HD.out _ HBx.out).2 1;have f2:=(HD.out _ HBx.out).2 2;have f3:=(HD.out _ HBx.out).2 3
     go_wp2_with fail
     obtain ⟨z0,z1,z2,z3⟩:=set4 w.heap.size _ (.slice none 0 0) (.slice none 0 0) (.slice none 0 0) (.slice none 0 0) d0 d1 d2 d3
     refine ret_cell rfl rfl (load_side _ _ _ _ _ _ z0 z1 z2 z3) rfl ⟨set4_below (Hb1.out.trans (HBx.out.mono Hb1.out.size)) (Nat.le_refl _) _ _ _ _,?_⟩
     rw [Hr.out]
     rfl
    | some ps =>
     have Hat:=η hat2
     have Hta3:=η (show Sd.takeAll Sd.none_ ts=match Sd.take1 x ps with | none=>none | some y=>Sd.takeAll y (ts.drop (k+1)) by rw [Hta2.out,hat2])
     clear hat2
     cases ps with
     | nil =>
      have Hr:=η (show Sd.dec s=none by rw [Hdec2.out,Hta3.out];rfl)
      go_upto_region 10 with (go_at_call 61; refine (wire_all t _ (HL.out.below HBw.out) Ht6.out).mono ?_;rintro e w6 ⟨hb,hm⟩;rw [Hat.out] at hm;obtain ⟨vp,hP,_,_,rfl⟩:=hm;have HBx:=η (HB.out.trans (hb.mono HB.out.size));obtain ⟨pp,cp,rfl⟩:=hP.form;clear hb hP)
      clear a0
      go_upto_region 11 with fail
      have d0:=(HD.out _ HBx.out).1 0 _ rfl;have d1:=(HD.out _ HBx.out).1 1 _ rfl;have d2:=(HD.out _ HBx.out).1 2 _ rfl;have d3:=(HD.out _ HBx.out).1 3 _ rfl
      have f0:=(HD.out _ HBx.out).2 0;have f1:=(HD.out _ HBx.out).2 1;have f2:=(HD.out _ HBx.out).2 2;have f3:=(HD.out _ HBx.out).2 3
      go_wp2_with fail
      obtain ⟨z0,z1,z2,z3⟩:=set4 w.heap.size _ (.slice none 0 0) (.slice none 0 0) (.slice none 0 0) (.slice none 0 0) d0 d1 d2 d3
      refine ret_cell rfl rfl (load_side _ _ _ _ _ _ z0 z1 z2 z3) rfl ⟨set4_below (Hb1.out.trans (HBx.out.mono Hb1.out.size)) (Nat.le_refl _) _ _ _ _,?_⟩
      rw [Hr.out]
      rfl
     | cons p0 ps =>
      go_upto_region 10 with (go_at_call 61; refine (wire_all t _ (HL.out.below HBw.out) Ht6.out).mono ?_;rintro e w6 ⟨hb,hm⟩;rw [Hat.out] at hm;obtain ⟨vp,hP,hps,hpl,rfl⟩:=hm;have Hb6:=η hb;have HP:=η hP;have Hps:=η hps;clear hb hP hps)
      have hPs:=HP.out.slice RStr.size (fun j=>wr.heap.size≤j) (fun _ h=>h)
      obtain ⟨pp,cp,rfl⟩:=HP.out.form
      have HPs:=η hPs
      clear a0 hlt'
      have hpl0:(((p0::ps).length:Int) == 0)=false:=by rw [beq_eq_false_iff_ne,List.length_cons];omega
      obtain ⟨np,hnp⟩:∃np,(p0::ps).length=np:=⟨_,rfl⟩
      have hnp0:0<np:=by rw [←hnp];simp
      have Hnp:=η hnp
      obtain ⟨p',cap',hv',_,_,hat⟩:=hPs
      obtain ⟨b6,off6,vs,hpb,_,hbw6,hR,hcc⟩:=hat 0 p0 rfl
      have hR:vs=_:=hR
      subst hR
      injection hv' with hv' _ hcap'
      subst hv'
      subst hcap'
      subst hpb
      have a0:w6.cell? ⟨b6,off6,none⟩=some (.string ⟨p0.toArray⟩):=by
       have:=hcc 0 _ rfl
       simpa using this
      rw [hnp] at hpl0 ⊢
      have hnp0':(0:Int)<(np:Int):=by omega
      have HKp6:=η (HKp.out.trans (Kept.below Hb6.out (Nat.le_of_lt Hgw.out) HSX.out.sz))
      have HSX6:=η (HSX.out.below Hb6.out)
      have hmp6:=kept_map HKp6.out HmB.out (Nat.ne_of_gt Hgm.out) Hmp4.out
      have Hmp6:=η hmp6
      clear hat hcc hnp hmp6
      by_cases h0:p0=Sd.labW
      ·
       have hlk:(Instr.lookup 131 (.map (some m)) (.string ⟨p0.toArray⟩) true).run Tryz.prog w6 = .ok (.tuple #[.agg #[.int .i64 4,.func (.func 113) #[] #[]],.bool true]) w6:=run_look_lit w6 _ _ _ m 4 rdEs ⟨p0.toArray⟩ 0 _ Tryz.underlying131 Tryz.underlying9 Hmp6.out (by rw [rd_find,if_pos h0];rfl)
       have hst:(store ⟨w6.heap.size,1,none⟩ (.func (.func 113) #[] #[])).run Tryz.prog (w6.alloc (.cells #[.int .i64 4,.nilFunc] 135)) = .ok () (w6.alloc (.cells #[.int .i64 4,.func (.func 113) #[] #[]] 135)):=store_func _ _ _ _
       by_cases hn:np=4
       ·
        have hneq:((np:Int) != 4)=false:=by rw [hn];rfl
        obtain ⟨a,c,d,hpe⟩:∃a c d:List UInt8,ps=[a,c,d]:=by
         have h:=Hnp.out
         rw [hn] at h
         match ps,h with
         | [a,c,d],_=>exact ⟨a,c,d,rfl⟩
        subst hpe
        have Hw:=η h0
        have ht1:Sd.take1 x (p0::[a,c,d])=some { x with labs:=x.labs++[⟨a,c,Sd.val d⟩] }:=by rw [h0];rfl
        have Hta4:=η (show Sd.takeAll Sd.none_ ts=Sd.takeAll { x with labs:=x.labs++[⟨a,c,Sd.val d⟩] } (ts.drop (k+1)) by rw [Hta3.out,ht1])
        have hza:a.length≤s.length:=Nat.le_trans (Hps.out a (by simp)) Htsz.out
        have hzc:c.length≤s.length:=Nat.le_trans (Hps.out c (by simp)) Htsz.out
        have hzd:d.length≤s.length:=Nat.le_trans (Hps.out d (by simp)) Htsz.out
        have Hza:=η hza
        have Hzc:=η hzc
        have Hzd:=η hzd
        clear ht1 h0 hza hzc hzd
        go_upto_region 13 with fail
        have hb7:=below_new w6 (.cells #[.int .i64 4,.func (.func 113) #[] #[]] 135)
        have e0:(w6.alloc (.cells #[.int .i64 4,.func (.func 113) #[] #[]] 135)).cell? ⟨w6.heap.size,0,none⟩=some (.int .i64 4):=by rw [cell_of_row _ _ _ _ _ _ (heap_alloc_new w6 _)];rfl
        have e1:(w6.alloc (.cells #[.int .i64 4,.func (.func 113) #[] #[]] 135)).cell? ⟨w6.heap.size,1,none⟩=some (.func (.func 113) #[] #[]):=by rw [cell_of_row _ _ _ _ _ _ (heap_alloc_new w6 _)];rfl
        generalize w6.alloc (.cells #[.int .i64 4,.func (.func 113) #[] #[]] 135)=w7 at hb7 e0 e1 ⊢
        have HSX7:=η (HSX6.out.below hb7);have HPs7:=η (HPs.out.below' hb7)
        have HL7:=η (HL.out.below (HBw.out.trans ((Hb6.out.trans (hb7.mono Hb6.out.size)).mono HBw.out.size)))
        have HKp7:=η (HKp6.out.trans (Kept.below hb7 (Nat.le_of_lt Hgw.out) HSX6.out.sz))
        have hdis:∀j,wr.heap.size≤j→vl.ownBlock≠some j∧j≠g:=fun j hj=>⟨fun e=>by have:=(HSX.out.l.ge j e).2;omega,by have:=HSX.out.sz;have:=Hgw.out;omega⟩
        have hxl:x.labs.length≤1000000:=by have:=HGr.out.labs;omega
        have Hdis:=η hdis;have Hxl:=η hxl
        have hqd:d.length≤1000000:=Nat.le_trans Hzd.out hs
        subst hn
        clear hb7 hdis hxl a0 hlk hpl0 hnp0' hst
        go_upto_region 16 with (go_at_call 113; refine (side_reader1 g _ x vl vh vc vb _ p0 a c d _ _ HL7.out HSX7.out HPs7.out Hdis.out Hxl.out hqd).mono ?_;rintro e9 w9 ⟨rfl,hkp,vl2,vh2,vc2,vb2,hsx⟩;have HKp9:=η (HKp7.out.trans hkp);have HSX9:=η hsx;clear hkp hsx)
        have hkl:=Hkl.out
        clear e0 e1 hneq
        go_wp2_with fail
        go_roundw
        case rel=>exact ⟨k+1,_,vl2,vh2,vc2,vb2,by have:=Hlt.out;omega,by go_num,Hta4.out,HSX9.out,HKp9.out,HGr.out.labs1 _ Hza.out Hzc.out⟩
        case measure=>have:=Hlt.out;simp [intOf];omega
       ·
        have hneq:((np:Int) != 4)=true:=by simp;omega
        have ht1:Sd.take1 x (p0::ps)=none:=by
         have h:=Hnp.out
         rw [h0]
         unfold Sd.take1
         split
         ·
          next w2 a2 he=>first | (exfalso;injection he with _ he;rw [he] at h;simp at h;omega) | (injection he with he1 he;subst he1;rfl)
         ·
          next w2 a2 b2 c2 he=>first | (exfalso;injection he with _ he;rw [he] at h;simp at h;omega) | (injection he with he1 he;subst he1;rfl)
         ·
          next w2 a2 b2 c2 d2 he=>first | (exfalso;injection he with _ he;rw [he] at h;simp at h;omega) | (injection he with he1 he;subst he1;rfl)
         ·
          rfl
        have Hr:=η (show Sd.dec s=none by rw [Hdec2.out,Hta3.out,ht1];first | done | rfl)
        clear ht1 h0
        go_upto_region 13 with fail
        have e0:(w6.alloc (.cells #[.int .i64 4,.func (.func 113) #[] #[]] 135)).cell? ⟨w6.heap.size,0,none⟩=some (.int .i64 4):=by rw [cell_of_row _ _ _ _ _ _ (heap_alloc_new w6 _)];rfl
        have HBx:=η ((HB.out.trans (Hb6.out.mono HB.out.size)).alloc (HB.out.trans (Hb6.out.mono HB.out.size)).size (.cells #[.int .i64 4,.func (.func 113) #[] #[]] 135))
        generalize w6.alloc (.cells #[.int .i64 4,.func (.func 113) #[] #[]] 135)=w7 at HBx e0 ⊢
        clear a0 hlk hpl0 hnp0' hn hst
        go_upto_region 14 with fail
        clear e0 hneq
        have d0:=(HD.out _ HBx.out).1 0 _ rfl;have d1:=(HD.out _ HBx.out).1 1 _ rfl;have d2:=(HD.out _ HBx.out).1 2 _ rfl;have d3:=(HD.out _ HBx.out).1 3 _ rfl
        have f0:=(HD.out _ HBx.out).2 0;have f1:=(HD.out _ HBx.out).2 1;have f2:=(HD.out _ HBx.out).2 2;have f3:=(HD.out _ HBx.out).2 3
        go_wp2_with fail
        obtain ⟨z0,z1,z2,z3⟩:=set4 w.heap.size _ (.slice none 0 0) (.slice none 0 0) (.slice none 0 0) (.slice none 0 0) d0 d1 d2 d3
        refine ret_cell rfl rfl (load_side _ _ _ _ _ _ z0 z1 z2 z3) rfl ⟨set4_below (Hb1.out.trans (HBx.out.mono Hb1.out.size)) (Nat.le_refl _) _ _ _ _,?_⟩
        rw [Hr.out]
        rfl
      ·
       skip
       by_cases h1:p0=Sd.headW
       ·
        have hlk:(Instr.lookup 131 (.map (some m)) (.string ⟨p0.toArray⟩) true).run Tryz.prog w6 = .ok (.tuple #[.agg #[.int .i64 5,.func (.func 115) #[] #[]],.bool true]) w6:=run_look_lit w6 _ _ _ m 4 rdEs ⟨p0.toArray⟩ 1 _ Tryz.underlying131 Tryz.underlying9 Hmp6.out (by rw [rd_find,if_neg h0,if_pos h1];rfl)
        have hst:(store ⟨w6.heap.size,1,none⟩ (.func (.func 115) #[] #[])).run Tryz.prog (w6.alloc (.cells #[.int .i64 5,.nilFunc] 135)) = .ok () (w6.alloc (.cells #[.int .i64 5,.func (.func 115) #[] #[]] 135)):=store_func _ _ _ _
        by_cases hn:np=5
        ·
         have hneq:((np:Int) != 5)=false:=by rw [hn];rfl
         obtain ⟨a,c,d,e,hpe⟩:∃a c d e:List UInt8,ps=[a,c,d,e]:=by
          have h:=Hnp.out
          rw [hn] at h
          match ps,h with
          | [a,c,d,e],_=>exact ⟨a,c,d,e,rfl⟩
         subst hpe
         have Hw:=η h1
         have ht1:Sd.take1 x (p0::[a,c,d,e])=some { x with heads:=x.heads++[⟨Sd.val a,c,d,Sd.val e⟩] }:=by rw [h1];rfl
         have Hta4:=η (show Sd.takeAll Sd.none_ ts=Sd.takeAll { x with heads:=x.heads++[⟨Sd.val a,c,d,Sd.val e⟩] } (ts.drop (k+1)) by rw [Hta3.out,ht1])
         have hza:a.length≤s.length:=Nat.le_trans (Hps.out a (by simp)) Htsz.out
         have hzc:c.length≤s.length:=Nat.le_trans (Hps.out c (by simp)) Htsz.out
         have hzd:d.length≤s.length:=Nat.le_trans (Hps.out d (by simp)) Htsz.out
         have hze:e.length≤s.length:=Nat.le_trans (Hps.out e (by simp)) Htsz.out
         have Hza:=η hza
         have Hzc:=η hzc
         have Hzd:=η hzd
         have Hze:=η hze
         clear ht1 h1 hza hzc hzd hze
         go_upto_region 13 with fail
         have hb7:=below_new w6 (.cells #[.int .i64 5,.func (.func 115) #[] #[]] 135)
         have e0:(w6.alloc (.cells #[.int .i64 5,.func (.func 115) #[] #[]] 135)).cell? ⟨w6.heap.size,0,none⟩=some (.int .i64 5):=by rw [cell_of_row _ _ _ _ _ _ (heap_alloc_new w6 _)];rfl
         have e1:(w6.alloc (.cells #[.int .i64 5,.func (.func 115) #[] #[]] 135)).cell? ⟨w6.heap.size,1,none⟩=some (.func (.func 115) #[] #[]):=by rw [cell_of_row _ _ _ _ _ _ (heap_alloc_new w6 _)];rfl
         generalize w6.alloc (.cells #[.int .i64 5,.func (.func 115) #[] #[]] 135)=w7 at hb7 e0 e1 ⊢
         have HSX7:=η (HSX6.out.below hb7);have HPs7:=η (HPs.out.below' hb7)
         have HL7:=η (HL.out.below (HBw.out.trans ((Hb6.out.trans (hb7.mono Hb6.out.size)).mono HBw.out.size)))
         have HKp7:=η (HKp6.out.trans (Kept.below hb7 (Nat.le_of_lt Hgw.out) HSX6.out.sz))
         have hdis:∀j,wr.heap.size≤j→vh.ownBlock≠some j∧j≠g:=fun j hj=>⟨fun e=>by have:=(HSX.out.h.ge j e).2;omega,by have:=HSX.out.sz;have:=Hgw.out;omega⟩
         have hxl:x.heads.length≤1000000:=by have:=HGr.out.heads;omega
         have Hdis:=η hdis;have Hxl:=η hxl
         have hqa:a.length≤1000000:=Nat.le_trans Hza.out hs
         have hqe:e.length≤1000000:=Nat.le_trans Hze.out hs
         subst hn
         clear hb7 hdis hxl a0 hlk hpl0 hnp0' hst
         go_upto_region 16 with (go_at_call 115; refine (side_reader2 g _ x vl vh vc vb _ p0 a c d e _ _ HL7.out HSX7.out HPs7.out Hdis.out Hxl.out hqa hqe).mono ?_;rintro e9 w9 ⟨rfl,hkp,vl2,vh2,vc2,vb2,hsx⟩;have HKp9:=η (HKp7.out.trans hkp);have HSX9:=η hsx;clear hkp hsx)
         have hkl:=Hkl.out
         clear e0 e1 hneq
         go_wp2_with fail
         go_roundw
         case rel=>exact ⟨k+1,_,vl2,vh2,vc2,vb2,by have:=Hlt.out;omega,by go_num,Hta4.out,HSX9.out,HKp9.out,HGr.out.heads1 _ Hzc.out Hzd.out⟩
         case measure=>have:=Hlt.out;simp [intOf];omega
        ·
         have hneq:((np:Int) != 5)=true:=by simp;omega
         have ht1:Sd.take1 x (p0::ps)=none:=by
          have h:=Hnp.out
          rw [h1]
          unfold Sd.take1
          split
          ·
           next w2 a2 he=>first | (exfalso;injection he with _ he;rw [he] at h;simp at h;omega) | (injection he with he1 he;subst he1;rfl)
          ·
           next w2 a2 b2 c2 he=>first | (exfalso;injection he with _ he;rw [he] at h;simp at h;omega) | (injection he with he1 he;subst he1;rfl)
          ·
           next w2 a2 b2 c2 d2 he=>first | (exfalso;injection he with _ he;rw [he] at h;simp at h;omega) | (injection he with he1 he;subst he1;rfl)
          ·
           rfl
         have Hr:=η (show Sd.dec s=none by rw [Hdec2.out,Hta3.out,ht1];first | done | rfl)
         clear ht1 h1
         go_upto_region 13 with fail
         have e0:(w6.alloc (.cells #[.int .i64 5,.func (.func 115) #[] #[]] 135)).cell? ⟨w6.heap.size,0,none⟩=some (.int .i64 5):=by rw [cell_of_row _ _ _ _ _ _ (heap_alloc_new w6 _)];rfl
         have HBx:=η ((HB.out.trans (Hb6.out.mono HB.out.size)).alloc (HB.out.trans (Hb6.out.mono HB.out.size)).size (.cells #[.int .i64 5,.func (.func 115) #[] #[]] 135))
         generalize w6.alloc (.cells #[.int .i64 5,.func (.func 115) #[] #[]] 135)=w7 at HBx e0 ⊢
         clear a0 hlk hpl0 hnp0' hn hst
         go_upto_region 14 with fail
         clear e0 hneq
         have d0:=(HD.out _ HBx.out).1 0 _ rfl;have d1:=(HD.out _ HBx.out).1 1 _ rfl;have d2:=(HD.out _ HBx.out).1 2 _ rfl;have d3:=(HD.out _ HBx.out).1 3 _ rfl
         have f0:=(HD.out _ HBx.out).2 0;have f1:=(HD.out _ HBx.out).2 1;have f2:=(HD.out _ HBx.out).2 2;have f3:=(HD.out _ HBx.out).2 3
         go_wp2_with fail
         obtain ⟨z0,z1,z2,z3⟩:=set4 w.heap.size _ (.slice none 0 0) (.slice none 0 0) (.slice none 0 0) (.slice none 0 0) d0 d1 d2 d3
         refine ret_cell rfl rfl (load_side _ _ _ _ _ _ z0 z1 z2 z3) rfl ⟨set4_below (Hb1.out.trans (HBx.out.mono Hb1.out.size)) (Nat.le_refl _) _ _ _ _,?_⟩
         rw [Hr.out]
         rfl
       ·
        skip
        by_cases h2:p0=Sd.citeW
        ·
         have hlk:(Instr.lookup 131 (.map (some m)) (.string ⟨p0.toArray⟩) true).run Tryz.prog w6 = .ok (.tuple #[.agg #[.int .i64 2,.func (.func 116) #[] #[]],.bool true]) w6:=run_look_lit w6 _ _ _ m 4 rdEs ⟨p0.toArray⟩ 2 _ Tryz.underlying131 Tryz.underlying9 Hmp6.out (by rw [rd_find,if_neg h0,if_neg h1,if_pos h2];rfl)
         have hst:(store ⟨w6.heap.size,1,none⟩ (.func (.func 116) #[] #[])).run Tryz.prog (w6.alloc (.cells #[.int .i64 2,.nilFunc] 135)) = .ok () (w6.alloc (.cells #[.int .i64 2,.func (.func 116) #[] #[]] 135)):=store_func _ _ _ _
         by_cases hn:np=2
         ·
          have hneq:((np:Int) != 2)=false:=by rw [hn];rfl
          obtain ⟨a,hpe⟩:∃a:List UInt8,ps=[a]:=by
           have h:=Hnp.out
           rw [hn] at h
           match ps,h with
           | [a],_=>exact ⟨a,rfl⟩
          subst hpe
          have Hw:=η h2
          have ht1:Sd.take1 x (p0::[a])=some { x with cites:=x.cites++[a] }:=by rw [h2];rfl
          have Hta4:=η (show Sd.takeAll Sd.none_ ts=Sd.takeAll { x with cites:=x.cites++[a] } (ts.drop (k+1)) by rw [Hta3.out,ht1])
          have hza:a.length≤s.length:=Nat.le_trans (Hps.out a (by simp)) Htsz.out
          have Hza:=η hza
          clear ht1 h2 hza
          go_upto_region 13 with fail
          have hb7:=below_new w6 (.cells #[.int .i64 2,.func (.func 116) #[] #[]] 135)
          have e0:(w6.alloc (.cells #[.int .i64 2,.func (.func 116) #[] #[]] 135)).cell? ⟨w6.heap.size,0,none⟩=some (.int .i64 2):=by rw [cell_of_row _ _ _ _ _ _ (heap_alloc_new w6 _)];rfl
          have e1:(w6.alloc (.cells #[.int .i64 2,.func (.func 116) #[] #[]] 135)).cell? ⟨w6.heap.size,1,none⟩=some (.func (.func 116) #[] #[]):=by rw [cell_of_row _ _ _ _ _ _ (heap_alloc_new w6 _)];rfl
          generalize w6.alloc (.cells #[.int .i64 2,.func (.func 116) #[] #[]] 135)=w7 at hb7 e0 e1 ⊢
          have HSX7:=η (HSX6.out.below hb7);have HPs7:=η (HPs.out.below' hb7)
          have HL7:=η (HL.out.below (HBw.out.trans ((Hb6.out.trans (hb7.mono Hb6.out.size)).mono HBw.out.size)))
          have HKp7:=η (HKp6.out.trans (Kept.below hb7 (Nat.le_of_lt Hgw.out) HSX6.out.sz))
          have hdis:∀j,wr.heap.size≤j→vc.ownBlock≠some j∧j≠g:=fun j hj=>⟨fun e=>by have:=(HSX.out.c.ge j e).2;omega,by have:=HSX.out.sz;have:=Hgw.out;omega⟩
          have hxl:x.cites.length≤1000000:=by have:=HGr.out.cites;omega
          have Hdis:=η hdis;have Hxl:=η hxl
          subst hn
          clear hb7 hdis hxl a0 hlk hpl0 hnp0' hst
          go_upto_region 16 with (go_at_call 116; refine (side_reader3 g _ x vl vh vc vb _ p0 a _ _ HL7.out HSX7.out HPs7.out Hdis.out Hxl.out).mono ?_;rintro e9 w9 ⟨rfl,hkp,vl2,vh2,vc2,vb2,hsx⟩;have HKp9:=η (HKp7.out.trans hkp);have HSX9:=η hsx;clear hkp hsx)
          have hkl:=Hkl.out
          clear e0 e1 hneq
          go_wp2_with fail
          go_roundw
          case rel=>exact ⟨k+1,_,vl2,vh2,vc2,vb2,by have:=Hlt.out;omega,by go_num,Hta4.out,HSX9.out,HKp9.out,HGr.out.cites1 _ Hza.out⟩
          case measure=>have:=Hlt.out;simp [intOf];omega
         ·
          have hneq:((np:Int) != 2)=true:=by simp;omega
          have ht1:Sd.take1 x (p0::ps)=none:=by
           have h:=Hnp.out
           rw [h2]
           unfold Sd.take1
           split
           ·
            next w2 a2 he=>first | (exfalso;injection he with _ he;rw [he] at h;simp at h;omega) | (injection he with he1 he;subst he1;rfl)
           ·
            next w2 a2 b2 c2 he=>first | (exfalso;injection he with _ he;rw [he] at h;simp at h;omega) | (injection he with he1 he;subst he1;rfl)
           ·
            next w2 a2 b2 c2 d2 he=>first | (exfalso;injection he with _ he;rw [he] at h;simp at h;omega) | (injection he with he1 he;subst he1;rfl)
           ·
            rfl
          have Hr:=η (show Sd.dec s=none by rw [Hdec2.out,Hta3.out,ht1];first | done | rfl)
          clear ht1 h2
          go_upto_region 13 with fail
          have e0:(w6.alloc (.cells #[.int .i64 2,.func (.func 116) #[] #[]] 135)).cell? ⟨w6.heap.size,0,none⟩=some (.int .i64 2):=by rw [cell_of_row _ _ _ _ _ _ (heap_alloc_new w6 _)];rfl
          have HBx:=η ((HB.out.trans (Hb6.out.mono HB.out.size)).alloc (HB.out.trans (Hb6.out.mono HB.out.size)).size (.cells #[.int .i64 2,.func (.func 116) #[] #[]] 135))
          generalize w6.alloc (.cells #[.int .i64 2,.func (.func 116) #[] #[]] 135)=w7 at HBx e0 ⊢
          clear a0 hlk hpl0 hnp0' hn hst
          go_upto_region 14 with fail
          clear e0 hneq
          have d0:=(HD.out _ HBx.out).1 0 _ rfl;have d1:=(HD.out _ HBx.out).1 1 _ rfl;have d2:=(HD.out _ HBx.out).1 2 _ rfl;have d3:=(HD.out _ HBx.out).1 3 _ rfl
          have f0:=(HD.out _ HBx.out).2 0;have f1:=(HD.out _ HBx.out).2 1;have f2:=(HD.out _ HBx.out).2 2;have f3:=(HD.out _ HBx.out).2 3
          go_wp2_with fail
          obtain ⟨z0,z1,z2,z3⟩:=set4 w.heap.size _ (.slice none 0 0) (.slice none 0 0) (.slice none 0 0) (.slice none 0 0) d0 d1 d2 d3
          refine ret_cell rfl rfl (load_side _ _ _ _ _ _ z0 z1 z2 z3) rfl ⟨set4_below (Hb1.out.trans (HBx.out.mono Hb1.out.size)) (Nat.le_refl _) _ _ _ _,?_⟩
          rw [Hr.out]
          rfl
        ·
         skip
         by_cases h3:p0=Sd.bibW
         ·
          have hlk:(Instr.lookup 131 (.map (some m)) (.string ⟨p0.toArray⟩) true).run Tryz.prog w6 = .ok (.tuple #[.agg #[.int .i64 2,.func (.func 117) #[] #[]],.bool true]) w6:=run_look_lit w6 _ _ _ m 4 rdEs ⟨p0.toArray⟩ 3 _ Tryz.underlying131 Tryz.underlying9 Hmp6.out (by rw [rd_find,if_neg h0,if_neg h1,if_neg h2,if_pos h3];rfl)
          have hst:(store ⟨w6.heap.size,1,none⟩ (.func (.func 117) #[] #[])).run Tryz.prog (w6.alloc (.cells #[.int .i64 2,.nilFunc] 135)) = .ok () (w6.alloc (.cells #[.int .i64 2,.func (.func 117) #[] #[]] 135)):=store_func _ _ _ _
          by_cases hn:np=2
          ·
           have hneq:((np:Int) != 2)=false:=by rw [hn];rfl
           obtain ⟨a,hpe⟩:∃a:List UInt8,ps=[a]:=by
            have h:=Hnp.out
            rw [hn] at h
            match ps,h with
            | [a],_=>exact ⟨a,rfl⟩
           subst hpe
           have Hw:=η h3
           have ht1:Sd.take1 x (p0::[a])=some { x with bibs:=x.bibs++[a] }:=by rw [h3];rfl
           have Hta4:=η (show Sd.takeAll Sd.none_ ts=Sd.takeAll { x with bibs:=x.bibs++[a] } (ts.drop (k+1)) by rw [Hta3.out,ht1])
           have hza:a.length≤s.length:=Nat.le_trans (Hps.out a (by simp)) Htsz.out
           have Hza:=η hza
           clear ht1 h3 hza
           go_upto_region 13 with fail
           have hb7:=below_new w6 (.cells #[.int .i64 2,.func (.func 117) #[] #[]] 135)
           have e0:(w6.alloc (.cells #[.int .i64 2,.func (.func 117) #[] #[]] 135)).cell? ⟨w6.heap.size,0,none⟩=some (.int .i64 2):=by rw [cell_of_row _ _ _ _ _ _ (heap_alloc_new w6 _)];rfl
           have e1:(w6.alloc (.cells #[.int .i64 2,.func (.func 117) #[] #[]] 135)).cell? ⟨w6.heap.size,1,none⟩=some (.func (.func 117) #[] #[]):=by rw [cell_of_row _ _ _ _ _ _ (heap_alloc_new w6 _)];rfl
           generalize w6.alloc (.cells #[.int .i64 2,.func (.func 117) #[] #[]] 135)=w7 at hb7 e0 e1 ⊢
           have HSX7:=η (HSX6.out.below hb7);have HPs7:=η (HPs.out.below' hb7)
           have HL7:=η (HL.out.below (HBw.out.trans ((Hb6.out.trans (hb7.mono Hb6.out.size)).mono HBw.out.size)))
           have HKp7:=η (HKp6.out.trans (Kept.below hb7 (Nat.le_of_lt Hgw.out) HSX6.out.sz))
           have hdis:∀j,wr.heap.size≤j→vb.ownBlock≠some j∧j≠g:=fun j hj=>⟨fun e=>by have:=(HSX.out.b.ge j e).2;omega,by have:=HSX.out.sz;have:=Hgw.out;omega⟩
           have hxl:x.bibs.length≤1000000:=by have:=HGr.out.bibs;omega
           have Hdis:=η hdis;have Hxl:=η hxl
           subst hn
           clear hb7 hdis hxl a0 hlk hpl0 hnp0' hst
           go_upto_region 16 with (go_at_call 117; refine (side_reader4 g _ x vl vh vc vb _ p0 a _ _ HL7.out HSX7.out HPs7.out Hdis.out Hxl.out).mono ?_;rintro e9 w9 ⟨rfl,hkp,vl2,vh2,vc2,vb2,hsx⟩;have HKp9:=η (HKp7.out.trans hkp);have HSX9:=η hsx;clear hkp hsx)
           have hkl:=Hkl.out
           clear e0 e1 hneq
           go_wp2_with fail
           go_roundw
           case rel=>exact ⟨k+1,_,vl2,vh2,vc2,vb2,by have:=Hlt.out;omega,by go_num,Hta4.out,HSX9.out,HKp9.out,HGr.out.bibs1 _ Hza.out⟩
           case measure=>have:=Hlt.out;simp [intOf];omega
          ·
           have hneq:((np:Int) != 2)=true:=by simp;omega
           have ht1:Sd.take1 x (p0::ps)=none:=by
            have h:=Hnp.out
            rw [h3]
            unfold Sd.take1
            split
            ·
             next w2 a2 he=>first | (exfalso;injection he with _ he;rw [he] at h;simp at h;omega) | (injection he with he1 he;subst he1;rfl)
            ·
             next w2 a2 b2 c2 he=>first | (exfalso;injection he with _ he;rw [he] at h;simp at h;omega) | (injection he with he1 he;subst he1;rfl)
            ·
             next w2 a2 b2 c2 d2 he=>first | (exfalso;injection he with _ he;rw [he] at h;simp at h;omega) | (injection he with he1 he;subst he1;rfl)
            ·
             rfl
           have Hr:=η (show Sd.dec s=none by rw [Hdec2.out,Hta3.out,ht1];first | done | rfl)
           clear ht1 h3
           go_upto_region 13 with fail
           have e0:(w6.alloc (.cells #[.int .i64 2,.func (.func 117) #[] #[]] 135)).cell? ⟨w6.heap.size,0,none⟩=some (.int .i64 2):=by rw [cell_of_row _ _ _ _ _ _ (heap_alloc_new w6 _)];rfl
           have HBx:=η ((HB.out.trans (Hb6.out.mono HB.out.size)).alloc (HB.out.trans (Hb6.out.mono HB.out.size)).size (.cells #[.int .i64 2,.func (.func 117) #[] #[]] 135))
           generalize w6.alloc (.cells #[.int .i64 2,.func (.func 117) #[] #[]] 135)=w7 at HBx e0 ⊢
           clear a0 hlk hpl0 hnp0' hn hst
           go_upto_region 14 with fail
           clear e0 hneq
           have d0:=(HD.out _ HBx.out).1 0 _ rfl;have d1:=(HD.out _ HBx.out).1 1 _ rfl;have d2:=(HD.out _ HBx.out).1 2 _ rfl;have d3:=(HD.out _ HBx.out).1 3 _ rfl
           have f0:=(HD.out _ HBx.out).2 0;have f1:=(HD.out _ HBx.out).2 1;have f2:=(HD.out _ HBx.out).2 2;have f3:=(HD.out _ HBx.out).2 3
           go_wp2_with fail
           obtain ⟨z0,z1,z2,z3⟩:=set4 w.heap.size _ (.slice none 0 0) (.slice none 0 0) (.slice none 0 0) (.slice none 0 0) d0 d1 d2 d3
           refine ret_cell rfl rfl (load_side _ _ _ _ _ _ z0 z1 z2 z3) rfl ⟨set4_below (Hb1.out.trans (HBx.out.mono Hb1.out.size)) (Nat.le_refl _) _ _ _ _,?_⟩
           rw [Hr.out]
           rfl
         ·
          skip
          have hlk:(Instr.lookup 131 (.map (some m)) (.string ⟨p0.toArray⟩) true).run Tryz.prog w6 = .ok (.tuple #[.agg #[.int .i64 0,.nilFunc],.bool false]) w6:=run_look_none w6 _ _ _ m 4 rdEs ⟨p0.toArray⟩ _ Tryz.underlying131 Tryz.underlying9 Hmp6.out (by rw [rd_find,if_neg h0,if_neg h1,if_neg h2,if_neg h3]) (zero_reader w6)
          have ht1:Sd.take1 x (p0::ps)=none:=by unfold Sd.take1;split <;> simp_all
          have Hr:=η (show Sd.dec s=none by rw [Hdec2.out,Hta3.out,ht1];first | done | rfl)
          clear ht1 h0 h1 h2 h3
          have hst:(store ⟨w6.heap.size,1,none⟩ .nilFunc).run Tryz.prog (w6.alloc (.cells #[.int .i64 0,.nilFunc] 135)) = .ok () (w6.alloc (.cells #[.int .i64 0,.nilFunc] 135)):=store_nil _ _ _
          go_upto_region 14 with fail
          clear hst
          have HBx:=η ((HB.out.trans (Hb6.out.mono HB.out.size)).alloc (HB.out.trans (Hb6.out.mono HB.out.size)).size (.cells #[.int .i64 0,.nilFunc] 135))
          clear a0 hlk hpl0 hnp0'
          have d0:=(HD.out _ HBx.out).1 0 _ rfl;have d1:=(HD.out _ HBx.out).1 1 _ rfl;have d2:=(HD.out _ HBx.out).1 2 _ rfl;have d3:=(HD.out _ HBx.out).1 3 _ rfl
          have f0:=(HD.out _ HBx.out).2 0;have f1:=(HD.out _ HBx.out).2 1;have f2:=(HD.out _ HBx.out).2 2;have f3:=(HD.out _ HBx.out).2 3
          go_wp2_with fail
          obtain ⟨z0,z1,z2,z3⟩:=set4 w.heap.size _ (.slice none 0 0) (.slice none 0 0) (.slice none 0 0) (.slice none 0 0) d0 d1 d2 d3
          refine ret_cell rfl rfl (load_side _ _ _ _ _ _ z0 z1 z2 z3) rfl ⟨set4_below (Hb1.out.trans (HBx.out.mono Hb1.out.size)) (Nat.le_refl _) _ _ _ _,?_⟩
          rw [Hr.out]
          rfl
   ·
    have hlt':¬(k:Int)<(ts.length:Int):=by omega
    obtain ⟨ql,kl,hvl⟩:=HSX.out.l.form
    obtain ⟨qh,kh,hvh⟩:=HSX.out.h.form
    obtain ⟨qc,kc,hvc⟩:=HSX.out.c.form
    obtain ⟨qb,kb,hvb⟩:=HSX.out.b.form
    subst hvl hvh hvc hvb
    have hdn:ts.drop k=[]:=List.drop_of_length_le (by omega)
    have hdec3:Sd.dec s=if Sd.right x&&Sd.encN x == s then some x else none:=by rw [Hdec2.out,Hta.out,hdn,Sd.takeAll]
    have Hdec3:=η hdec3
    have c0:=HSX.out.c0;have c1:=HSX.out.c1;have c2:=HSX.out.c2;have c3:=HSX.out.c3
    have hsi:SideIn (fun _=>True) wr (.agg #[.slice ql x.labs.length kl,.slice qh x.heads.length kh,.slice qc x.cites.length kc,.slice qb x.bibs.length kb]) x:=⟨_,_,_,_,rfl,HSX.out.l.slice RLab.size _ (fun _ _=>trivial),HSX.out.h.slice RHd.size _ (fun _ _=>trivial),HSX.out.c.slice RStr.size _ (fun _ _=>trivial),HSX.out.b.slice RStr.size _ (fun _ _=>trivial)⟩
    have hsm:SideSm x:=HGr.out.sm (by omega) hs
    have Hsi:=η hsi;have Hsm:=η hsm
    have henc:Sd.enc x=if Sd.right x then (Sd.encN x,0) else ([],5):=rfl
    clear hsi hsm hdn hdec3
    cases hr:Sd.right x
    ·
     rw [hr] at henc
     have Henc:=η (henc.trans (by simp):Sd.enc x=([],5))
     have Hr:=η (show Sd.dec s=none by rw [Hdec3.out,hr];rfl)
     clear henc hr
     go_upto_region 19 with (go_at_call 28; refine (side_encode x _ _ _ (HL.out.below HBw.out) Hsi.out Hsm.out).mono ?_;rw [Henc.out];rintro e w6 ⟨rfl,hb⟩;have HBx:=η (HB.out.trans (hb.mono HB.out.size));clear hb)
     clear c0 c1 c2 c3 hlt'
     have d0:=(HD.out _ HBx.out).1 0 _ rfl;have d1:=(HD.out _ HBx.out).1 1 _ rfl;have d2:=(HD.out _ HBx.out).1 2 _ rfl;have d3:=(HD.out _ HBx.out).1 3 _ rfl
     have f0:=(HD.out _ HBx.out).2 0;have f1:=(HD.out _ HBx.out).2 1;have f2:=(HD.out _ HBx.out).2 2;have f3:=(HD.out _ HBx.out).2 3
     go_wp2_with fail
     obtain ⟨z0,z1,z2,z3⟩:=set4 w.heap.size _ (.slice none 0 0) (.slice none 0 0) (.slice none 0 0) (.slice none 0 0) d0 d1 d2 d3
     refine ret_cell rfl rfl (load_side _ _ _ _ _ _ z0 z1 z2 z3) rfl ⟨set4_below (Hb1.out.trans (HBx.out.mono Hb1.out.size)) (Nat.le_refl _) _ _ _ _,?_⟩
     rw [Hr.out]
     rfl
    ·
     rw [hr] at henc
     obtain ⟨en,hen⟩:∃en,Sd.encN x=en:=⟨_,rfl⟩
     have Henc:=η (henc.trans (by simp [hen]):Sd.enc x=(en,0))
     have hdec4:Sd.dec s=if en == s then some x else none:=by rw [Hdec3.out,hr,hen];simp
     have Hdec4:=η hdec4
     clear henc hr hen hdec4
     cases hes:(en == s)
     ·
      have Hr:=η (show Sd.dec s=none by rw [Hdec4.out,hes];rfl)
      have hne:en≠s:=fun h=>by rw [h] at hes;simp at hes
      go_upto_region 19 with (go_at_call 28; refine (side_encode x _ _ _ (HL.out.below HBw.out) Hsi.out Hsm.out).mono ?_;rw [Henc.out];rintro e w6 ⟨rfl,hb⟩;have HBx:=η (HB.out.trans (hb.mono HB.out.size));clear hb)
      clear c0 c1 c2 c3 hlt' hes hne
      have d0:=(HD.out _ HBx.out).1 0 _ rfl;have d1:=(HD.out _ HBx.out).1 1 _ rfl;have d2:=(HD.out _ HBx.out).1 2 _ rfl;have d3:=(HD.out _ HBx.out).1 3 _ rfl
      have f0:=(HD.out _ HBx.out).2 0;have f1:=(HD.out _ HBx.out).2 1;have f2:=(HD.out _ HBx.out).2 2;have f3:=(HD.out _ HBx.out).2 3
      go_wp2_with fail
      obtain ⟨z0,z1,z2,z3⟩:=set4 w.heap.size _ (.slice none 0 0) (.slice none 0 0) (.slice none 0 0) (.slice none 0 0) d0 d1 d2 d3
      refine ret_cell rfl rfl (load_side _ _ _ _ _ _ z0 z1 z2 z3) rfl ⟨set4_below (Hb1.out.trans (HBx.out.mono Hb1.out.size)) (Nat.le_refl _) _ _ _ _,?_⟩
      rw [Hr.out]
      rfl
     ·
      have hes2:=eq_of_beq hes
      have Hr:=η (show Sd.dec s=some x by rw [Hdec4.out,hes];rfl)
      subst hes2
      go_upto_region 20 with (go_at_call 28; refine (side_encode x _ _ _ (HL.out.below HBw.out) Hsi.out Hsm.out).mono ?_;rw [Henc.out];rintro e w6 ⟨rfl,hb⟩;have HBx:=η (HB.out.trans (hb.mono HB.out.size));have HSX6:=η (HSX.out.below hb);clear hb)
      have c0:=HSX6.out.c0;have c1:=HSX6.out.c1;have c2:=HSX6.out.c2;have c3:=HSX6.out.c3
      have d0:=(HD.out _ HBx.out).1 0 _ rfl;have d1:=(HD.out _ HBx.out).1 1 _ rfl;have d2:=(HD.out _ HBx.out).1 2 _ rfl;have d3:=(HD.out _ HBx.out).1 3 _ rfl
      have f0:=(HD.out _ HBx.out).2 0;have f1:=(HD.out _ HBx.out).2 1;have f2:=(HD.out _ HBx.out).2 2;have f3:=(HD.out _ HBx.out).2 3
      clear hlt' hes
      go_wp2_with fail
      obtain ⟨z0,z1,z2,z3⟩:=set4 w.heap.size _ (.slice ql x.labs.length kl) (.slice qh x.heads.length kh) (.slice qc x.cites.length kc) (.slice qb x.bibs.length kb) d0 d1 d2 d3
      refine ret_cell rfl rfl (load_side _ _ _ _ _ _ z0 z1 z2 z3) rfl ?_
      have hbz:=set4_below (Hb1.out.trans (HBx.out.mono Hb1.out.size)) (Nat.le_refl _) (.slice ql x.labs.length kl) (.slice qh x.heads.length kh) (.slice qc x.cites.length kc) (.slice qb x.bibs.length kb)
      refine ⟨hbz,?_⟩
      rw [Hr.out]
      refine ⟨_,?_,?_,rfl⟩
      ·
       have hwB:w.heap.size<w4.heap.size:=by have h1:=Hs1.out;have h2:=Hg1.out;have h3:=Hgw.out;omega
       exact ⟨_,_,_,_,rfl,(HSX6.out.l.set4 _ _ _ _ hwB).slice RLab.size _ (fun b hb=>Nat.le_trans (Nat.le_of_lt hwB) hb),(HSX6.out.h.set4 _ _ _ _ hwB).slice RHd.size _ (fun b hb=>Nat.le_trans (Nat.le_of_lt hwB) hb),(HSX6.out.c.set4 _ _ _ _ hwB).slice RStr.size _ (fun b hb=>Nat.le_trans (Nat.le_of_lt hwB) hb),(HSX6.out.b.set4 _ _ _ _ hwB).slice RStr.size _ (fun b hb=>Nat.le_trans (Nat.le_of_lt hwB) hb)⟩
      ·
       have hg0:=HGr.out
       exact ⟨by have:=hg0.labs;omega,by have:=hg0.heads;omega,by have:=hg0.cites;omega,by have:=hg0.bibs;omega,hg0.lab,hg0.head,hg0.cite,hg0.bib⟩
end Go.Proofs.YtgnfmopcialllaaGreatDoor
