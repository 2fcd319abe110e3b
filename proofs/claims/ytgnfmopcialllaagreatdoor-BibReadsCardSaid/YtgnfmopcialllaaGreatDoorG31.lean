/- The walks of package bib, fifth part: what the document told. The walks of package bib: what the document told, where it is right. The walks of index's log, and of its entries. The walks of package bib: the log. The walks of stetlaw10's own functions, first part: the same words. What package bib's run computes, and how long it may get. Plain Lean. -/
import Derived.Test.YtgnfmopcialllaaGreatDoorTk
import Derived.Test.YtgnfmopcialllaaGreatDoorG23
import Derived.Test.YtgnfmopcialllaaGreatDoorSidWb
import Derived.Test.YtgnfmopcialllaaGreatDoorG06
import Derived.OrdersHeld
import Derived.Deep.RegionHeld
import Derived.BigQuiet
import Derived.Test.YtgnfmopcialllaaGreatDoorG05
set_option linter.unusedSimpArgs false
set_option linter.unusedVariables false
namespace Go.Proofs.YtgnfmopcialllaaGreatDoor
open Go.RowKit
theorem Mv.set {g k:Nat} {vr vn vr' vn':Value} {w W:World} (h:Mv g vr vn vr' vn' w W) (hk:w.heap.size≤k) (i:Nat) (v:Value):Mv g vr vn vr' vn' w (W.setCell ⟨k,i,none⟩ v) :=
 ⟨h.os,h.tape,h.output,by simpa using h.size,fun j hj h1 h2 h3=>(Below.heap_setCell _ _ _ _ (fun e=>by have e2:j=k:=e;omega)).trans (h.block j hj h1 h2 h3),h.r,h.n⟩
theorem Wk.set {g k:Nat} {vf vr vn:Value} {rs:List (List UInt8)} {ns:List (Int × List UInt8)} {W:World} (h:Wk g vf vr vn rs ns W) (hk:k≠g) (hr:vr.ownBlock≠some k) (hn:vn.ownBlock≠some k) (i:Nat) (v:Value):Wk g vf vr vn rs ns (W.setCell ⟨k,i,none⟩ v) :=
 h.grown (grown_set W k i v) hk hr hn
theorem Wk.set4 {g k:Nat} {vf vr vn:Value} {rs:List (List UInt8)} {ns:List (Int × List UInt8)} {W:World} (h:Wk g vf vr vn rs ns W) (hk:k≠g) (hr:vr.ownBlock≠some k) (hn:vn.ownBlock≠some k) (a b c d:Value):Wk g vf vr vn rs ns ((((W.setCell ⟨k,0,none⟩ a).setCell ⟨k,1,none⟩ b).setCell ⟨k,2,none⟩ c).setCell ⟨k,3,none⟩ d) :=
 (((h.set hk hr hn 0 a).set hk hr hn 1 b).set hk hr hn 2 c).set hk hr hn 3 d
set_option maxRecDepth 100000 in
set_option maxHeartbeats 1600000 in
theorem bb_given_none (g:Nat) (l:List (List UInt8 × List UInt8)) (name t:List UInt8) (vf vr vn:Value) (rs:List (List UInt8)) (ns:List (Int × List UInt8)) (w:World) (hL:∀W,Below g w W→Laid10 W) (hW:Wk g vf vr vn rs ns w) (hS:SliceIn (fun j=>j<g) 2 RFl w vf l) (hs:Ix.Sorted l) (hl:l.length≤1000000) (hrl:rs.length≤1000000) (hG:(Ix.get l name).getD []=t) (ht:t.length≤1000000) (hd:Sd.dec t=none) :
  Calls Tryz.prog 14 #[.pointer (some ⟨g,0,none⟩),.string ⟨name.toArray⟩] w fun e w'=>e = .returned (.tuple #[.agg #[.slice none 0 0,.slice none 0 0,.slice none 0 0,.slice none 0 0],.iface 66 (.agg #[.string ⟨name.toArray⟩,.int .i64 5])])∧∃vr',Wk g vf vr' vn (Bb.see rs name) ns w'∧Mv g vr vn vr' vn w w':=by
 have hb:=below_new w (.cells #[.slice none 0 0,.slice none 0 0,.slice none 0 0,.slice none 0 0] 46)
 have hx:∀(i:Nat) (u:Value),#[(.slice none 0 0:Value),.slice none 0 0,.slice none 0 0,.slice none 0 0][i]? = some u→(w.alloc (.cells #[.slice none 0 0,.slice none 0 0,.slice none 0 0,.slice none 0 0] 46)).cell? ⟨w.heap.size,i,none⟩=some u:=by
  intro i u hu
  rw [cell_of_row _ _ _ _ _ _ (heap_alloc_new w _)]
  exact hu
 have hc:=bb_read g l name vf vr vn rs ns _ (hW.below hb) (hS.below' hb) hs hl hrl
 rw [hG] at hc
 have hp:=fun W (h:Laid10 W)=>side_decode t W h ht
 have Hc:=η hc;have Hp:=η hp;have Hx:=η hx;have HL:=η hL;have Hd:=η hd;have HW:=η hW;have Hb:=η hb
 clear hc hp hx hL hW hS hs hl hrl hG ht hd hb
 go_enter Tryz.func14, Tryz.ntmps14
 go_upto_region 2 with (go_at_call 32; refine Hc.out.mono ?_;rintro e w1 ⟨rfl,vr1,hW1,hM1⟩;have HW1:=η hW1;have HM1:=η hM1;clear hW1 hM1)
 have hlt:=HW.out.t.lt
 have hbg:Below g w w1:=(Hb.out.mono (Nat.le_of_lt hlt)).trans (HM1.out.below (Nat.le_refl _) (fun k e=>by have:=ownL_ge HW.out.r k e;omega) (fun k e=>by have:=ownL_ge HW.out.n k e;omega) (by have:=Hb.out.size;omega))
 have HL1:=η (HL.out _ hbg)
 have ha:w.heap.size<(w.alloc (.cells #[.slice none 0 0,.slice none 0 0,.slice none 0 0,.slice none 0 0] 46)).heap.size:=lt_alloc _ _
 have hr0:vr.ownBlock≠some w.heap.size:=fun e=>by have:=ownL_lt HW.out.r _ e;omega
 have hn0:vn.ownBlock≠some w.heap.size:=fun e=>by have:=ownL_lt HW.out.n _ e;omega
 have hk1:=HM1.out.block w.heap.size ha (Nat.ne_of_gt hlt) hr0 hn0
 have hx1:∀(i:Nat) (u:Value),#[(.slice none 0 0:Value),.slice none 0 0,.slice none 0 0,.slice none 0 0][i]? = some u→w1.cell? ⟨w.heap.size,i,none⟩=some u:=fun i u hu=>(World.cell?_of_block (a:=⟨w.heap.size,i,none⟩) hk1).trans (Hx.out i u hu)
 have hf1:∀i,w1.frozen? ⟨w.heap.size,i,none⟩=false:=fun i=>(World.frozen?_of_block (a:=⟨w.heap.size,i,none⟩) hk1).trans (new_frozen w _ _ i)
 have ha1:w.heap.size<w1.heap.size:=Nat.lt_of_lt_of_le ha HM1.out.size
 have Hx1:=η hx1;have Hf1:=η hf1;have Ha1:=η ha1
 have hr1:vr1.ownBlock≠some w.heap.size:=fun e=>by
  rcases HM1.out.r with h | ⟨j,h,hj⟩
  ·
   exact hr0 (h.symm.trans e)
  ·
   rw [h] at e;injection e with e;omega
 have Hr1:=η hr1;have Hn0:=η hn0;have Hlt:=η hlt;have Hr0:=η hr0
 clear hbg ha hr0 hn0 hk1 hx1 hf1 ha1 hr1 hlt
 go_upto_region 3 with (go_at_call 33; refine (Hp.out _ HL1.out).mono ?_;rintro e w2 h;unfold DecPost at h;rw [Hd.out] at h;obtain ⟨hb2,rfl⟩:=h)
 obtain ⟨W3,hW3⟩:∃W3,W3=w2.alloc (.cells #[.slice none 0 0,.slice none 0 0,.slice none 0 0,.slice none 0 0] 46):=⟨_,rfl⟩
 have hb3:Below w1.heap.size w1 W3:=by rw [hW3];exact hb2.trans ((below_new w2 _).mono hb2.size)
 rw [←hW3]
 have d0:=(hb3.cell (p:=⟨w.heap.size,0,none⟩) Ha1.out).trans (Hx1.out 0 _ rfl)
 have d1:=(hb3.cell (p:=⟨w.heap.size,1,none⟩) Ha1.out).trans (Hx1.out 1 _ rfl)
 have d2:=(hb3.cell (p:=⟨w.heap.size,2,none⟩) Ha1.out).trans (Hx1.out 2 _ rfl)
 have d3:=(hb3.cell (p:=⟨w.heap.size,3,none⟩) Ha1.out).trans (Hx1.out 3 _ rfl)
 have f0:=(hb3.frozen (p:=⟨w.heap.size,0,none⟩) Ha1.out).trans (Hf1.out 0)
 have f1:=(hb3.frozen (p:=⟨w.heap.size,1,none⟩) Ha1.out).trans (Hf1.out 1)
 have f2:=(hb3.frozen (p:=⟨w.heap.size,2,none⟩) Ha1.out).trans (Hf1.out 2)
 have f3:=(hb3.frozen (p:=⟨w.heap.size,3,none⟩) Ha1.out).trans (Hf1.out 3)
 have Hb3:=η hb3
 clear hb3 hb2 hW3
 go_wp2_with fail
 obtain ⟨z0,z1,z2,z3⟩:=set4 w.heap.size W3 (.slice none 0 0) (.slice none 0 0) (.slice none 0 0) (.slice none 0 0) d0 d1 d2 d3
 refine ret_cell rfl rfl (load_side _ _ _ _ _ _ z0 z1 z2 z3) rfl ⟨rfl,vr1,(HW1.out.below Hb3.out).set4 (Nat.ne_of_gt Hlt.out) Hr1.out Hn0.out _ _ _ _,?_⟩
 exact ((((((Mv.of_below Hb.out g vr vn).trans HM1.out).trans (Mv.of_below Hb3.out g vr1 vn)).set (Nat.le_refl _) 0 _).set (Nat.le_refl _) 1 _).set (Nat.le_refl _) 2 _).set (Nat.le_refl _) 3 _
end Go.Proofs.YtgnfmopcialllaaGreatDoor
set_option linter.unusedSimpArgs false
set_option linter.unusedVariables false
namespace Go.Proofs.YtgnfmopcialllaaGreatDoor
open Go.RowKit
theorem SideIn.kept {S S':Nat→Prop} {w w':World} {v:Value} {x:Sd.Side} (h:SideIn S w v x) (hs:∀b,S b→S' b) (hz:w.heap.size≤w'.heap.size) (hb:∀b,S b→b<w.heap.size→w'.heap[b]? = w.heap[b]?):SideIn S' w' v x:=by
 obtain ⟨vl,vh,vc,vb,e,h1,h2,h3,h4⟩:=h
 exact ⟨vl,vh,vc,vb,e,h1.kept hs hz hb (fun _ _ _ h=>h),h2.kept hs hz hb (fun _ _ _ h=>h),h3.kept hs hz hb (fun _ _ _ h=>h),h4.kept hs hz hb (fun _ _ _ h=>h)⟩
set_option maxRecDepth 100000 in
set_option maxHeartbeats 1600000 in
theorem bb_given (g:Nat) (l:List (List UInt8 × List UInt8)) (name t:List UInt8) (x:Sd.Side) (vf vr vn:Value) (rs:List (List UInt8)) (ns:List (Int × List UInt8)) (w:World) (hL:∀W,Below g w W→Laid10 W) (hW:Wk g vf vr vn rs ns w) (hS:SliceIn (fun j=>j<g) 2 RFl w vf l) (hs:Ix.Sorted l) (hl:l.length≤1000000) (hrl:rs.length≤1000000) (hG:(Ix.get l name).getD []=t) (ht:t.length≤1000000) (hd:Sd.dec t=some x) :
  Calls Tryz.prog 14 #[.pointer (some ⟨g,0,none⟩),.string ⟨name.toArray⟩] w fun e w'=>∃vx vr',e = .returned (.tuple #[vx,.nilIface])∧Wk g vf vr' vn (Bb.see rs name) ns w'∧Mv g vr vn vr' vn w w'∧SideIn (fun j=>w.heap.size<j∧vr'.ownBlock≠some j∧vn.ownBlock≠some j) w' vx x∧Grow t.length t.length x:=by
 have hb:=below_new w (.cells #[.slice none 0 0,.slice none 0 0,.slice none 0 0,.slice none 0 0] 46)
 have hx:∀(i:Nat) (u:Value),#[(.slice none 0 0:Value),.slice none 0 0,.slice none 0 0,.slice none 0 0][i]? = some u→(w.alloc (.cells #[.slice none 0 0,.slice none 0 0,.slice none 0 0,.slice none 0 0] 46)).cell? ⟨w.heap.size,i,none⟩=some u:=by
  intro i u hu
  rw [cell_of_row _ _ _ _ _ _ (heap_alloc_new w _)]
  exact hu
 have hc:=bb_read g l name vf vr vn rs ns _ (hW.below hb) (hS.below' hb) hs hl hrl
 rw [hG] at hc
 have hp:=fun W (h:Laid10 W)=>side_decode t W h ht
 have Hc:=η hc;have Hp:=η hp;have Hx:=η hx;have HL:=η hL;have Hd:=η hd;have HW:=η hW;have Hb:=η hb
 clear hc hp hx hL hW hS hs hl hrl hG ht hd hb
 go_enter Tryz.func14, Tryz.ntmps14
 go_upto_region 2 with (go_at_call 32; refine Hc.out.mono ?_;rintro e w1 ⟨rfl,vr1,hW1,hM1⟩;have HW1:=η hW1;have HM1:=η hM1;clear hW1 hM1)
 have hlt:=HW.out.t.lt
 have hbg:Below g w w1:=(Hb.out.mono (Nat.le_of_lt hlt)).trans (HM1.out.below (Nat.le_refl _) (fun k e=>by have:=ownL_ge HW.out.r k e;omega) (fun k e=>by have:=ownL_ge HW.out.n k e;omega) (by have:=Hb.out.size;omega))
 have HL1:=η (HL.out _ hbg)
 have ha:w.heap.size<(w.alloc (.cells #[.slice none 0 0,.slice none 0 0,.slice none 0 0,.slice none 0 0] 46)).heap.size:=lt_alloc _ _
 have hr0:vr.ownBlock≠some w.heap.size:=fun e=>by have:=ownL_lt HW.out.r _ e;omega
 have hn0:vn.ownBlock≠some w.heap.size:=fun e=>by have:=ownL_lt HW.out.n _ e;omega
 have hk1:=HM1.out.block w.heap.size ha (Nat.ne_of_gt hlt) hr0 hn0
 have hx1:∀(i:Nat) (u:Value),#[(.slice none 0 0:Value),.slice none 0 0,.slice none 0 0,.slice none 0 0][i]? = some u→w1.cell? ⟨w.heap.size,i,none⟩=some u:=fun i u hu=>(World.cell?_of_block (a:=⟨w.heap.size,i,none⟩) hk1).trans (Hx.out i u hu)
 have hf1:∀i,w1.frozen? ⟨w.heap.size,i,none⟩=false:=fun i=>(World.frozen?_of_block (a:=⟨w.heap.size,i,none⟩) hk1).trans (new_frozen w _ _ i)
 have ha1:w.heap.size<w1.heap.size:=Nat.lt_of_lt_of_le ha HM1.out.size
 have Hx1:=η hx1;have Hf1:=η hf1;have Ha1:=η ha1
 have hr1:vr1.ownBlock≠some w.heap.size:=fun e=>by
  rcases HM1.out.r with h | ⟨j,h,hj⟩
  ·
   exact hr0 (h.symm.trans e)
  ·
   rw [h] at e;injection e with e;omega
 have Hr1:=η hr1;have Hn0:=η hn0;have Hlt:=η hlt;have Hr0:=η hr0
 clear hbg ha hr0 hn0 hk1 hx1 hf1 ha1 hr1 hlt
 go_upto_region 3 with (go_at_call 33; refine (Hp.out _ HL1.out).mono ?_;rintro e w2 h;unfold DecPost at h;rw [Hd.out] at h;obtain ⟨hb2,vx,hX,hGr,rfl⟩:=h;have HX:=η hX;have HGr:=η hGr;obtain ⟨vl,vh,vc,vb,rfl,⟨pl,cl,rfl,_⟩,⟨ph,ch,rfl,_⟩,⟨pc,cc,rfl,_⟩,⟨pb,cb,rfl,_⟩⟩:=hX;clear hGr)
 obtain ⟨W3,hW3⟩:∃W3,W3=w2.alloc (.cells #[.slice pl x.labs.length cl,.slice ph x.heads.length ch,.slice pc x.cites.length cc,.slice pb x.bibs.length cb] 46):=⟨_,rfl⟩
 have hb3:Below w1.heap.size w1 W3:=by rw [hW3];exact hb2.trans ((below_new w2 _).mono hb2.size)
 have hx3:∀(i:Nat) (u:Value),#[(.slice pl x.labs.length cl:Value),.slice ph x.heads.length ch,.slice pc x.cites.length cc,.slice pb x.bibs.length cb][i]? = some u→W3.cell? ⟨w2.heap.size,i,none⟩=some u:=by
  intro i u hu
  rw [hW3,cell_of_row _ _ _ _ _ _ (heap_alloc_new w2 _)]
  exact hu
 have q0:=hx3 0 _ rfl;have q1:=hx3 1 _ rfl;have q2:=hx3 2 _ rfl;have q3:=hx3 3 _ rfl
 have hb23:Below w2.heap.size w2 W3:=by rw [hW3];exact below_new w2 _
 have HX3:=η (HX.out.below hb23)
 clear hx3
 rw [←hW3]
 have d0:=(hb3.cell (p:=⟨w.heap.size,0,none⟩) Ha1.out).trans (Hx1.out 0 _ rfl)
 have d1:=(hb3.cell (p:=⟨w.heap.size,1,none⟩) Ha1.out).trans (Hx1.out 1 _ rfl)
 have d2:=(hb3.cell (p:=⟨w.heap.size,2,none⟩) Ha1.out).trans (Hx1.out 2 _ rfl)
 have d3:=(hb3.cell (p:=⟨w.heap.size,3,none⟩) Ha1.out).trans (Hx1.out 3 _ rfl)
 have f0:=(hb3.frozen (p:=⟨w.heap.size,0,none⟩) Ha1.out).trans (Hf1.out 0)
 have f1:=(hb3.frozen (p:=⟨w.heap.size,1,none⟩) Ha1.out).trans (Hf1.out 1)
 have f2:=(hb3.frozen (p:=⟨w.heap.size,2,none⟩) Ha1.out).trans (Hf1.out 2)
 have f3:=(hb3.frozen (p:=⟨w.heap.size,3,none⟩) Ha1.out).trans (Hf1.out 3)
 have Hb3:=η hb3
 have Hb2s:=η hb2.size
 clear hb3 hb2 hW3 hb23
 go_wp2_with fail
 obtain ⟨z0,z1,z2,z3⟩:=set4 w.heap.size W3 (.slice pl x.labs.length cl) (.slice ph x.heads.length ch) (.slice pc x.cites.length cc) (.slice pb x.bibs.length cb) d0 d1 d2 d3
 refine ret_cell rfl rfl (load_side _ _ _ _ _ _ z0 z1 z2 z3) rfl ⟨_,vr1,rfl,(HW1.out.below Hb3.out).set4 (Nat.ne_of_gt Hlt.out) Hr1.out Hn0.out _ _ _ _,?_,?_,HGr.out⟩
 ·
  exact ((((((Mv.of_below Hb.out g vr vn).trans HM1.out).trans (Mv.of_below Hb3.out g vr1 vn)).set (Nat.le_refl _) 0 _).set (Nat.le_refl _) 1 _).set (Nat.le_refl _) 2 _).set (Nat.le_refl _) 3 _
 ·
  have hrl:∀j,vr1.ownBlock=some j→j<w1.heap.size:=ownL_lt HW1.out.r
  have hnl:∀j,vn.ownBlock=some j→j<w1.heap.size:=ownL_lt HW1.out.n
  have ha:=Ha1.out
  refine HX3.out.kept (fun b hb=>⟨by omega,fun e=>by have:=hrl b e;omega,fun e=>by have:=hnl b e;omega⟩) (by simp) (fun b hb _=>?_)
  have hne:b≠w.heap.size:=by omega
  exact (((Below.heap_setCell _ _ _ _ hne).trans (Below.heap_setCell _ _ _ _ hne)).trans (Below.heap_setCell _ _ _ _ hne)).trans (Below.heap_setCell _ _ _ _ hne)
end Go.Proofs.YtgnfmopcialllaaGreatDoor
set_option linter.unusedSimpArgs false
set_option linter.unusedVariables false
namespace Go.Proofs.YtgnfmopcialllaaGreatDoor
open Go.RowKit
attribute [local go_sem] Oper.semAt_some
namespace Ix
def logText (ns:List (Int × List UInt8)):List UInt8:=ns.flatMap fun x=>(dig x.1++[32]++x.2)++[10]
theorem logText_snoc (ns:List (Int × List UInt8)) (x:Int × List UInt8):logText (ns++[x])=logText ns++((dig x.1++[32]++x.2)++[10]):=by unfold logText;rw [List.flatMap_append];simp
theorem logText_length:∀(ns:List (Int × List UInt8)),(∀x ∈ ns,x.2.length≤100000)→(logText ns).length≤ns.length*100010
 | [],_=>by simp [logText]
 | a::r,h=>by
  have h1:=logText_length r fun x hx=>h x (List.mem_cons_of_mem _ hx)
  have h2:=h a (by simp)
  have h3:=dig_length a.1
  unfold logText at h1 ⊢
  rw [List.flatMap_cons,List.length_append,List.length_cons]
  simp only [List.length_append,List.length_cons,List.length_nil]
  omega
end Ix
end Go.Proofs.YtgnfmopcialllaaGreatDoor
set_option linter.unusedSimpArgs false
set_option linter.unusedVariables false
namespace Go.Proofs.YtgnfmopcialllaaGreatDoor
open Go.RowKit
theorem b32:(⟨#[32]⟩:ByteArray)=⟨[32].toArray⟩:=rfl
theorem b10:(⟨#[10]⟩:ByteArray)=⟨[10].toArray⟩:=rfl
theorem bb_text (n:Int) (w:World) (hL:Laid01 w):Calls Tryz.prog 40 #[.int .i64 n,.int .i64 0] w fun e w'=>e = .returned (.string ⟨(Ix.dig n).toArray⟩)∧Below w.heap.size w w':=count_text n 0 w hL
set_option maxRecDepth 100000 in
set_option maxHeartbeats 1600000 in
theorem bb_log (gw:Nat) (ns:List (Int × List UInt8)) (v:Value) (S:Nat→Prop) (w:World) (hc2:w.cell? ⟨gw,2,none⟩=some v) (hS:SliceIn S 2 RNote w v ns) (hn:ns.length≤100000) (hx:∀x ∈ ns,x.2.length≤100000) (hL:Laid01 w) :
  Calls Tryz.prog 19 #[.pointer (some ⟨gw,0,none⟩)] w fun e w'=>e = .returned (.string ⟨(Ix.logText ns).toArray⟩)∧Below w.heap.size w w':=by
 obtain ⟨p,cap,rfl,hle,hm,hat⟩:=hS
 have Hat:=η hat;have HL:=η hL;have Hx:=η hx;have Hn:=η hn
 clear hat hL hx hle hm hn
 go_enter Tryz.func19, Tryz.ntmps19
 go_wp2_with fail
 go_loopw [3,11] (fun sv iv wr=>∃k:Nat,k≤ns.length∧iv = .int .i64 (k:Int)∧sv = .string ⟨(Ix.logText (ns.take k)).toArray⟩∧Below w.heap.size w wr) (fun _ iv _=>ns.length - (intOf iv).toNat)
 case atStart=>exact ⟨0,Nat.zero_le _,rfl,rfl,Below.refl _ _⟩
 case round =>
  clear hc2
  obtain ⟨k,hk,rfl,rfl,hb⟩:=hrel
  have Hb:=η hb;clear hb
  by_cases hlt:k<ns.length
  ·
   obtain ⟨x,hx⟩:∃x,ns[k]? = some x:=⟨_,List.getElem?_eq_getElem hlt⟩
   have hlt':(k:Int)<(ns.length:Int):=by omega
   obtain ⟨b,off,vs,rfl,_,hbw,hR,hc⟩:=Hat.out k x hx
   have hR:vs=_:=hR
   subst hR
   have e0:wr.cell? ⟨b,off+k*2,none⟩=some (.int .i64 x.1):=(Hb.out.cell (p:=⟨b,off+k*2,none⟩) hbw).trans (hc 0 _ rfl)
   have e1:wr.cell? ⟨b,off+k*2+1,none⟩=some (.string ⟨x.2.toArray⟩):=(Hb.out.cell (p:=⟨b,off+k*2+1,none⟩) hbw).trans (hc 1 _ rfl)
   have hxm:=Hx.out x (List.mem_of_getElem? hx)
   have hsnoc:=Ix.take_snoc ns k x hx
   obtain ⟨P,hP⟩:∃P,P=Ix.logText (ns.take k):=⟨_,rfl⟩
   have hPl:P.length≤10001000000:=by
    have h1:=Ix.logText_length (ns.take k) (fun y hy=>Hx.out y (List.mem_of_mem_take hy))
    have h2:(ns.take k).length≤100000:=by rw [List.length_take];have:=Hn.out;omega
    have h3:(ns.take k).length*100010≤10001000000:=by omega
    rw [hP]
    exact Nat.le_trans h1 h3
   obtain ⟨dg,hdg⟩:∃d,d=Ix.dig x.1:=⟨_,rfl⟩
   have hdl:dg.length≤6:=by rw [hdg];exact Ix.dig_length _
   have hnext:Ix.logText (ns.take (k+1))=P++(((dg++[32])++x.2)++[10]):=by rw [hsnoc,Ix.logText_snoc,hP,hdg]
   rw [←hP]
   obtain ⟨xe,xs⟩:=x
   simp only at e0 e1 hxm hdg hnext
   have Hnext:=η hnext;have Hdg:=η hdg
   have hs0:=hxm
   clear hc hx hsnoc hP hnext hdg
   have hkl:(k:Int)+1≤9223372036854775807:=by have:=Hn.out;omega
   have hq1:¬9223372036854775807<dg.length+1:=by omega
   have hq2:¬9223372036854775807<dg.length+1+xs.length:=by omega
   have hq3:¬9223372036854775807<dg.length+1+xs.length+1:=by omega
   have hq4:¬9223372036854775807<P.length+(dg.length+1+xs.length+1):=by omega
   go_upto_region 5 with fail
   refine wp_region_any (by kernel_rfl) ?_
   change wpAny _ _ _ _ _ _ _ (World.drew _)
   have hbn:=below_new wr (.cells #[.int .i64 xe,.string ⟨xs.toArray⟩] 77)
   have f0:(wr.alloc (.cells #[.int .i64 xe,.string ⟨xs.toArray⟩] 77)).drew.cell? ⟨wr.heap.size,0,none⟩=some (.int .i64 xe):=by
    have:=cell_of_row _ _ 0 _ _ _ (heap_alloc_new wr (.cells #[.int .i64 xe,.string ⟨xs.toArray⟩] 77))
    exact this
   have f1:(wr.alloc (.cells #[.int .i64 xe,.string ⟨xs.toArray⟩] 77)).drew.cell? ⟨wr.heap.size,1,none⟩=some (.string ⟨xs.toArray⟩):=by
    have:=cell_of_row _ _ 1 _ _ _ (heap_alloc_new wr (.cells #[.int .i64 xe,.string ⟨xs.toArray⟩] 77))
    exact this
   have hgl:wr.heap.size<(wr.alloc (.cells #[.int .i64 xe,.string ⟨xs.toArray⟩] 77)).drew.heap.size:=by simp
   have Hbd:=η (bseq Hb.out (hbn.trans (Below.refl _ _).drew))
   have HL1:=η (HL.out.below Hbd.out)
   clear hbn
   generalize (wr.alloc (.cells #[.int .i64 xe,.string ⟨xs.toArray⟩] 77)).drew=wd at *
   generalize hg:wr.heap.size=g at *
   have F0:=η f0;have F1:=η f1;have Hgl:=η hgl
   clear f0 f1 hgl
   have hS0:Below wd.heap.size wd wd:=Below.refl _ _
   refine wpAny_of_held (S:=fun W=>Below wd.heap.size wd W) _ _ _ _ ?_
   refine tk 0 (.string ⟨P.toArray⟩) rfl (h:=?_)
   refine tk 1 (.pointer (some ⟨g,0,none⟩)) rfl (hy:=fun W hW=>by go_simp) (h:=?_)
   refine tk 2 (.int .i64 xe) rfl (hy:=fun W hW=>by (have c:=(hW.cell (p:=⟨g,0,none⟩) Hgl.out).trans F0.out;go_simp)) (h:=?_)
   refine tk 5 (.pointer (some ⟨g,1,none⟩)) rfl (hy:=fun W hW=>by go_simp) (h:=?_)
   refine tk 6 (.string ⟨xs.toArray⟩) rfl (hy:=fun W hW=>by (have c:=(hW.cell (p:=⟨g,1,none⟩) Hgl.out).trans F1.out;go_simp)) (h:=?_)
   try simp only [Act.put,π1,π2,π3,π4,π5,π6]
   refine tr 3 rfl (h:=fun K hK=>?_)
   go_simp
   go_wp2_with (go_at_call 40; refine (bb_text xe _ HL1.out).mono ?_;rw [←Hdg.out];rintro e w3 ⟨rfl,h3⟩;have H3:=η h3;clear h3)
   refine hK.out _ _ (H3.out) (fun _=>?_)
   clear K hK
   refine tk 4 (.string (⟨dg.toArray⟩++⟨#[32]⟩)) rfl (hy:=fun W hW=>by go_simp) (h:=?_)
   refine tk 7 (.string ((⟨dg.toArray⟩++⟨#[32]⟩)++⟨xs.toArray⟩)) rfl (hy:=fun W hW=>by go_simp) (h:=?_)
   refine tk 8 (.string (((⟨dg.toArray⟩++⟨#[32]⟩)++⟨xs.toArray⟩)++⟨#[10]⟩)) rfl (hy:=fun W hW=>by go_simp) (h:=?_)
   refine tk 9 (.string (⟨P.toArray⟩++(((⟨dg.toArray⟩++⟨#[32]⟩)++⟨xs.toArray⟩)++⟨#[10]⟩))) rfl (hy:=fun W hW=>by go_simp) (h:=?_)
   refine tk 10 (.string (⟨P.toArray⟩++(((⟨dg.toArray⟩++⟨#[32]⟩)++⟨xs.toArray⟩)++⟨#[10]⟩))) rfl (h:=?_)
   try simp only [Act.put,π1,π2,π3,π4,π5,π6]
   refine wpAnyH_done (by kernel_rfl) ?_ _
   go_wp2_with fail
   go_roundw
   case rel =>
    refine ⟨k+1,by omega,by go_num,?_,bseq Hbd.out H3.out⟩
    rw [Hnext.out,b32,b10,append_data,append_data,append_data,append_data]
   case measure=>simp [intOf];omega
  ·
   have he:k=ns.length:=by omega
   subst he
   rw [List.take_length]
   clear hlt hk
   go_wp2_with fail
   go_ret
   exact ⟨rfl,Hb.out⟩
end Go.Proofs.YtgnfmopcialllaaGreatDoor
set_option linter.unusedSimpArgs false
set_option linter.unusedVariables false
namespace Go.Proofs.YtgnfmopcialllaaGreatDoor
open Go.RowKit
theorem below_drewN' {B:Nat} {a w:World} (h:Below B a w) (n:Nat):Below B a (w.drewN n):=by
 first
  | exact below_drewN h n
  | (
    induction n with
    | zero=>exact h
    | succ n ih=>exact ih.drew)
theorem take_snoc_eq {α:Type} {a b:List α} {k:Nat} {x:α} (h:a.take k=b.take k) (ha:a[k]? = some x) (hb:b[k]? = some x):a.take (k+1)=b.take (k+1):=by
 rw [List.take_add_one,List.take_add_one,h,ha,hb]
set_option maxRecDepth 100000 in
set_option maxHeartbeats 1600000 in
theorem ref02_words (a b:List (List UInt8)) (va vb:Value) (S S':Nat→Prop) (w:World) (hA:SliceIn S 1 RStr w va a) (hB:SliceIn S' 1 RStr w vb b) :
  Calls Tryz.prog 9 #[va,vb] w fun e w'=>e = .returned (.bool (decide (a=b)))∧Below w.heap.size w w':=by
 have hla:=hA.bound;have hlb:=hB.bound
 obtain ⟨pa,ca,rfl,_,_,hata⟩:=hA
 obtain ⟨pb,cb,rfl,_,_,hatb⟩:=hB
 have HA:=η hata;have HB:=η hatb
 clear hata hatb
 go_enter Tryz.func9, Tryz.ntmps9
 by_cases hl:a.length=b.length
 ·
  have hl':((a.length:Int) != (b.length:Int))=false:=by simp [hl]
  have Hl:=η hl
  clear hl
  go_wp2_with fail
  clear hl'
  go_loopw [5] (fun iv wr=>∃k:Nat,k≤a.length∧iv = .int .i64 (k:Int)∧a.take k=b.take k∧Below w.heap.size w wr) (fun iv _=>a.length - (intOf iv).toNat)
  case atStart=>exact ⟨0,Nat.zero_le _,rfl,rfl,Below.refl _ _⟩
  case round =>
   obtain ⟨k,hk,rfl,ht,hb⟩:=hrel
   have Ht:=η ht;have Hb:=η hb
   clear ht hb
   by_cases hlt:k<a.length
   ·
    obtain ⟨x,hx⟩:∃x,a[k]? = some x:=⟨_,List.getElem?_eq_getElem hlt⟩
    obtain ⟨y,hy⟩:∃y,b[k]? = some y:=⟨_,List.getElem?_eq_getElem (by have:=Hl.out;omega)⟩
    obtain ⟨b1,o1,vs1,rfl,_,hw1,hR1,hc1⟩:=HA.out k x hx
    obtain ⟨b2,o2,vs2,rfl,_,hw2,hR2,hc2⟩:=HB.out k y hy
    have hR1:vs1=_:=hR1
    have hR2:vs2=_:=hR2
    subst hR1 hR2
    have e1:wr.cell? ⟨b1,o1+k,none⟩=some (.string ⟨x.toArray⟩):=by
     have:=(Hb.out.cell (p:=⟨b1,o1+(k*1+0),none⟩) hw1).trans (hc1 0 _ rfl)
     rwa [Nat.mul_one,Nat.add_zero] at this
    have e2:wr.cell? ⟨b2,o2+k,none⟩=some (.string ⟨y.toArray⟩):=by
     have:=(Hb.out.cell (p:=⟨b2,o2+(k*1+0),none⟩) hw2).trans (hc2 0 _ rfl)
     rwa [Nat.mul_one,Nat.add_zero] at this
    have hlt':(k:Int)<(a.length:Int):=by omega
    have hltb:(k:Int)<(b.length:Int):=by have:=Hl.out;omega
    have hkl:(k:Int)+1≤9223372036854775807:=by omega
    have Hx:=η hx;have Hy:=η hy;have Hkl:=η hkl;have Hlt:=η hlt
    clear hc1 hc2 hx hy hkl
    cases hs:(x == y)
    ·
     have Hne:=η (show decide (a=b)=false from decide_eq_false (fun h=>by
      rw [h,Hy.out] at Hx
      have:=Option.some.inj Hx.out
      rw [this] at hs;simp at hs))
     go_upto_region 6 with fail
     go_quiet (fail)
     go_wp2_with fail
     go_ret
     exact ⟨ret_bool Hne.out.symm,below_drewN' Hb.out _⟩
    ·
     obtain rfl:=eq_of_beq hs
     clear hs
     have Ht2:=η (take_snoc_eq Ht.out Hx.out Hy.out)
     go_upto_region 6 with fail
     go_quiet (fail)
     have hkl:=Hkl.out
     clear e1 e2 hltb
     go_wp2_with fail
     go_roundw
     case rel=>exact ⟨k+1,by omega,by go_num,Ht2.out,below_drewN' Hb.out _⟩
     case measure=>simp [intOf];omega
   ·
    have hlt':¬(k:Int)<(a.length:Int):=by omega
    have Heq:=η (show decide (a=b)=true from decide_eq_true (by
     have h:=Ht.out
     rwa [List.take_of_length_le (by omega),List.take_of_length_le (by have:=Hl.out;omega)] at h))
    go_wp2_with fail
    go_ret
    exact ⟨ret_bool Heq.out.symm,Hb.out⟩
 ·
  have hl':((a.length:Int) != (b.length:Int))=true:=by simp;omega
  have Hne:=η (show decide (a=b)=false from decide_eq_false (fun h=>hl (by rw [h])))
  clear hl
  go_wp2_with fail
  go_ret
  exact ⟨ret_bool Hne.out.symm,Below.refl _ _⟩
end Go.Proofs.YtgnfmopcialllaaGreatDoor
set_option linter.unusedSimpArgs false
set_option linter.unusedVariables false
namespace Go.Proofs.YtgnfmopcialllaaGreatDoor
namespace Lb
open Ent
theorem addF_mem (own:List Fld):∀(fs acc:List Fld),(∀f ∈ addF own acc fs,f ∈ acc∨f ∈ fs)∧(addF own acc fs).length≤acc.length+fs.length
 | [],acc=>⟨fun f hf=>.inl hf,Nat.le_refl _⟩
 | g::r,acc=>by
  unfold addF
  have h:=addF_mem own r (if (Ent.get own g.name).2 then acc else acc++[g])
  refine ⟨fun f hf=>?_,?_⟩
  ·
   rcases h.1 f hf with h1 | h1
   ·
    split at h1
    ·
     exact .inl h1
    ·
     rcases List.mem_append.1 h1 with h2 | h2
     ·
      exact .inl h2
     ·
      exact .inr (by simp at h2;simp [h2])
   ·
    exact .inr (List.mem_cons_of_mem _ h1)
  ·
   refine Nat.le_trans h.2 ?_
   rw [List.length_cons]
   split
   ·
    omega
   ·
    rw [List.length_append,List.length_singleton];omega
theorem wholeN_mem (l:List Ent) (M:Nat) (hM:∀x ∈ l,x.fields.length≤M):∀(n:Nat) (key:List UInt8) (seen:List (List UInt8)) (fs r:List Fld) (e:Int),wholeN l n key seen fs=(some r,e)→(∀f ∈ r,f ∈ fs ∨ ∃x ∈ l,f ∈ x.fields)∧r.length≤fs.length+M*n
 | 0,_,_,_,_,_,h=>by simp [wholeN] at h
 | n+1,key,seen,fs,r,e,h=>by
  rw [wholeN] at h
  split at h
  ·
   simp at h
  ·
   next x hx =>
   have hxm:x ∈ l:=List.mem_of_find?_eq_some hx
   have ha:=addF_mem fs x.fields fs
   have hMx:=hM x hxm
   dsimp only at h
   split at h
   ·
    simp only [Prod.mk.injEq,Option.some.injEq] at h
    obtain ⟨rfl,_⟩:=h
    refine ⟨fun f hf=>(ha.1 f hf).imp id fun h=>⟨x,hxm,h⟩,?_⟩
    rw [Nat.mul_succ];have:=ha.2;omega
   ·
    split at h
    ·
     simp at h
    ·
     have ih:=wholeN_mem l M hM n _ _ _ r e h
     refine ⟨fun f hf=>?_,?_⟩
     ·
      rcases ih.1 f hf with h1 | h1
      ·
       exact (ha.1 f h1).imp id fun h=>⟨x,hxm,h⟩
      ·
       exact .inr h1
     ·
      rw [Nat.mul_succ];have:=ha.2;have:=ih.2;omega
theorem many_le (a b:Nat) (h:a≤([]:List Fld).length+1000*(b+1)) (hb:b≤100000):a≤1000000000:=by
 rw [List.length_nil,Nat.zero_add] at h
 exact Nat.le_trans h (Nat.le_trans (Nat.mul_le_mul_left 1000 (Nat.succ_le_succ hb)) (by decide))
theorem wholeE_b (l:List Ent) (h:∀x ∈ l,EntB x∧x.fields.length≤1000) (hl:l.length≤100000) (key:List UInt8) (x:Ent) (hw:(wholeE l key).1=some x):EntB x:=by
 unfold wholeE at hw
 split at hw
 ·
  next fs e hr =>
  dsimp only at hw
  cases hf:findE l key with
  | none=>rw [hf] at hw;cases hw
  | some y =>
   rw [hf] at hw
   simp only [Option.map_some,Option.some.injEq] at hw
   have hym:y ∈ l:=List.mem_of_find?_eq_some hf
   have hm:=wholeN_mem l 1000 (fun x hx=>(h x hx).2) _ _ _ _ _ _ hr
   have hb:=(h y hym).1
   subst hw
   refine ⟨hb.kind,hb.key,fun f hf=>?_,fun f hf=>?_,?_⟩
   ·
    rcases hm.1 f hf with h1 | ⟨z,hz,h1⟩
    ·
     cases h1
    ·
     exact (h z hz).1.name f h1
   ·
    rcases hm.1 f hf with h1 | ⟨z,hz,h1⟩
    ·
     cases h1
    ·
     exact (h z hz).1.text f h1
   ·
    exact many_le _ _ hm.2 hl
 ·
  cases hw
theorem pick_mem (l:List Ent) (ks:List (List UInt8)) (x:Ent) (hx:x ∈ (pick l ks).1):∃k,(wholeE l k).1=some x:=by
 unfold pick at hx
 rw [pick_fresh] at hx
 obtain ⟨k,_,hk⟩:=List.mem_filterMap.1 hx
 exact ⟨k,hk⟩
theorem pick_b (l:List Ent) (h:∀x ∈ l,EntB x∧x.fields.length≤1000) (hl:l.length≤100000) (ks:List (List UInt8)):∀x ∈ (pick l ks).1,EntB x:=fun x hx=>by
 obtain ⟨k,hk⟩:=pick_mem l ks x hx
 exact wholeE_b l h hl k x hk
theorem fresh_le (ks seen:List (List UInt8)):(fresh seen ks).length≤ks.length :=
 List.Nodup.length_le_of_subset (fresh_nodup ks seen) fun q hq=>((mem_fresh ks seen q).1 hq).1
theorem pick_le (l:List Ent) (ks:List (List UInt8)):(pick l ks).1.length≤ks.length∧(pick l ks).2.length≤ks.length:=by
 have h:=pick_count l ks
 have h2:=fresh_le ks []
 omega
theorem pick_notes (l:List Ent) (ks:List (List UInt8)):∀x ∈ (pick l ks).2,x.2 ∈ ks:=by
 unfold pick
 rw [pick_fresh]
 intro x hx
 dsimp only at hx
 obtain ⟨k,hk,he⟩:=List.mem_filterMap.1 hx
 have hk:=((mem_fresh ks [] k).1 hk).1
 split at he
 ·
  cases he
 ·
  obtain rfl:=Option.some.inj he;exact hk
theorem joined_fine (x:Ent) (h:EntB x):tot ((authors x).map short)≤28000:=by
 have h1:=h.field authorW
 have h2:=tot_split (field x authorW)
 unfold authors
 generalize split (field x authorW)=l at h2
 have:∀l:List (List UInt8),tot ((l.map parse).map short)≤27*tot l:=fun l=>by
  induction l with
  | nil=>exact Nat.zero_le _
  | cons s l ih =>
   have a:=short_len (s.length+1) (parse s) (parse_len s)
   rw [List.map_cons,List.map_cons,tot_cons,tot_cons];omega
 have:=this l
 omega
theorem text_fine (x:Ent) (h:EntB x):(textOf x).length≤999999:=by
 have h1:=h.field titleW
 have h2:=h.field yearW
 have h3:=joined_fine x h
 have h4:=joinS_le ((authors x).map short) [44,32]
 have h5:=dots_len [Lib.join ((authors x).map short) [44,32],field x titleW,field x yearW]
 rw [tot_cons,tot_cons,tot_cons,tot_nil] at h5
 have h6:[(44:UInt8),32].length=2:=rfl
 rw [h6] at h4
 show (dots _).length≤_
 omega
theorem tag_fine (style:Int) (ls:List (List UInt8)) (i:Nat) (s:List UInt8) (hl:ls.length≤1000) (hs:s.length≤8):(tag style ls i s).length≤999999:=by
 unfold tag
 split
 ·
  exact Cnt.text_length _ _
 ·
  split
  ·
   by_cases hc:1≤(ls.take (i+1)).count s
   ·
    have h1:=List.count_le_length (a:=s) (l:=ls.take (i+1))
    rw [List.length_take] at h1
    have:=text3_len _ hc (by omega)
    rw [List.length_append];omega
   ·
    rw [show (ls.take (i+1)).count s=0 by omega,List.length_append]
    have:(Cnt.text ((0:Nat):Int) 3).length≤1000:=by decide +kernel
    omega
  ·
   omega
end Lb
namespace Bb
def auxW:List UInt8:=[46,97,117,120]
def bibW:List UInt8:=[46,98,105,98]
def bblW:List UInt8:=[46,98,98,108]
def blgW:List UInt8:=[46,98,108,103]
abbrev Nts:=List (Int × List UInt8)
abbrev Fls:=List (List UInt8 × List UInt8)
def text (l:Fls) (job:List UInt8):List UInt8:=(Ix.get l (job++auxW)).getD []
def sideOf (t:List UInt8):Sd.Side:=(Sd.dec t).getD Sd.none_
def note0 (t nm:List UInt8):Nts:=if (Sd.dec t).isSome then [] else [(5,nm)]
structure St where
 rs:List (List UInt8)
 ns:Nts
 es:List Ent.Ent
def base1 (l:Fls) (σ:St) (b:List UInt8):St :=
 match Ix.get l (b++bibW) with
 | none=>⟨see σ.rs (b++bibW),σ.ns++[(4,b++bibW)],σ.es⟩
 | some t=>⟨see σ.rs (b++bibW),σ.ns++(Ent.parse t).2,σ.es++(Ent.parse t).1⟩
def bases (l:Fls) (σ:St) (bs:List (List UInt8)):St:=bs.foldl (base1 l) σ
theorem bases_snoc (l:Fls) (σ:St) (bs:List (List UInt8)) (k:Nat) (b:List UInt8) (h:bs[k]? = some b):bases l σ (bs.take (k+1))=base1 l (bases l σ (bs.take k)) b:=by
 rw [Ix.take_snoc bs k b h]
 unfold bases
 rw [List.foldl_append];rfl
def cit (c:Lb.Cited):List UInt8:=(Sd.put c.ent.key++Sd.put c.label)++Sd.put c.text
def bblOf (cs:List Lb.Cited):List UInt8:=cs.flatMap cit
theorem bbl_snoc (cs:List Lb.Cited) (k:Nat) (c:Lb.Cited) (h:cs[k]? = some c):bblOf (cs.take (k+1))=bblOf (cs.take k)++cit c:=by
 rw [Ix.take_snoc cs k c h]
 unfold bblOf
 rw [List.flatMap_append];simp
def st0 (l:Fls) (job:List UInt8):St:=⟨[job++auxW],note0 (text l job) (job++auxW),[]⟩
def st1 (l:Fls) (job:List UInt8):St:=bases l (st0 l job) (sideOf (text l job)).bibs
def cited (l:Fls) (job:List UInt8) (style:Int):List Lb.Cited × Nts:=Lb.all (st1 l job).es (sideOf (text l job)).cites style
def notesA (l:Fls) (job:List UInt8) (style:Int):Nts:=(st1 l job).ns++(cited l job style).2
def bblT (l:Fls) (job:List UInt8) (style:Int):List UInt8:=bblOf (cited l job style).1
def notesB (l:Fls) (job:List UInt8) (style:Int):Nts:=notesA l job style++(if 4000<(bblT l job style).length then [(3,job++bblW)] else [])
def filesOf (l:Fls) (job:List UInt8) (style:Int):Fls:=[(job++bblW,(bblT l job style).take 4000),(job++blgW,(Ix.logText (notesB l job style)).take 4000)]
def run (l:Fls) (job:List UInt8) (style:Int):Option (Fls × List (List UInt8)):=if Ix.jobOk job then some (filesOf l job style,(st1 l job).rs) else none
theorem dec_right (t:List UInt8) (x:Sd.Side) (h:Sd.dec t=some x):Sd.right x=true∧Sd.encN x=t:=by
 unfold Sd.dec at h
 split at h
 ·
  cases h
 ·
  split at h
  ·
   cases h
  ·
   split at h
   ·
    rename_i hq
    obtain rfl:=Option.some.inj h
    simpa using hq
   ·
    cases h
theorem itoa_pos (n:Nat):1≤(Lib.itoa (n:Int)).length:=by
 unfold Lib.itoa
 rw [if_neg (by omega),Lib.decDigits]
 split <;> simp
theorem put_pos (s:List UInt8):s.length+3≤(Sd.put s).length:=by
 have:=itoa_pos s.length
 unfold Sd.put
 simp only [List.length_append,List.length_cons,List.length_nil]
 omega
theorem encC_len (s:List UInt8) (h:s≠[]):14≤(Sd.encC s).length:=by
 have h1:=List.length_pos_iff.2 h
 have h2:=put_pos s
 have h3:=put_pos Sd.citeW
 have h4:=put_pos (([Sd.citeW,s].map Sd.put).flatten)
 have h5:Sd.citeW.length=4:=rfl
 unfold Sd.encC Sd.record
 simp only [List.map_cons,List.map_nil,List.flatten_cons,List.flatten_nil,List.length_append,List.length_nil] at h4 ⊢
 omega
theorem encCs_len:∀l:List (List UInt8),(∀s ∈ l,s≠[])→14*l.length≤(l.map Sd.encC).flatten.length
 | [],_=>by simp
 | s::l,h=>by
  have a:=encC_len s (h s (by simp))
  have b:=encCs_len l (fun q hq=>h q (List.mem_cons_of_mem _ hq))
  rw [List.map_cons,List.flatten_cons,List.length_append,List.length_cons]
  omega
theorem key_of (s:List UInt8) (h:Sd.key s=true):s≠[]∧s.length≤60:=by
 unfold Sd.key at h
 simp only [Bool.and_eq_true,bne_iff_ne,ne_eq,decide_eq_true_eq] at h
 exact ⟨h.1.1,h.1.2⟩
structure Sml (x:Sd.Side):Prop where
 bibs:x.bibs.length≤8
 bib:∀b ∈ x.bibs,b.length≤60
 cites:x.cites.length≤39
 cite:∀b ∈ x.cites,b.length≤60
theorem side_small (t:List UInt8) (ht:t.length≤500):Sml (sideOf t):=by
 unfold sideOf
 cases h:Sd.dec t with
 | none=>exact ⟨by simp [Sd.none_],by simp [Sd.none_],by simp [Sd.none_],by simp [Sd.none_]⟩
 | some x =>
  obtain ⟨hr,he⟩:=dec_right t x h
  unfold Sd.right at hr
  simp only [Bool.and_eq_true,decide_eq_true_eq] at hr
  obtain ⟨⟨⟨⟨⟨⟨⟨⟨_,_⟩,_⟩,hb⟩,hc⟩,hk⟩,_⟩,_⟩,_⟩:=hr
  have hcs:=fun s hs=>key_of s (Sd.keysN_key _ _ hc s hs)
  have hbs:=fun s hs=>key_of s (Sd.keysN_key _ _ hk s hs)
  refine ⟨hb,fun b hm=>(hbs b hm).2,?_,fun b hm=>(hcs b hm).2⟩
  have h1:=encCs_len x.cites (fun s hs=>(hcs s hs).1)
  have h2:=congrArg List.length he
  unfold Sd.encN at h2
  rw [List.length_append,List.length_append,List.length_append] at h2
  show x.cites.length≤39
  omega
structure StB (k:Nat) (σ:St):Prop where
 rs:σ.rs.length≤1+k
 ns:σ.ns.length≤1+500*k
 nt:∀x ∈ σ.ns,x.2.length≤500
 es:σ.es.length≤500*k
 eb:∀x ∈ σ.es,Lb.EntB x∧x.fields.length≤1000
theorem parse_b (t:List UInt8) (ht:t.length≤500):(Ent.parse t).1.length≤500∧(Ent.parse t).2.length≤500∧(∀x ∈ (Ent.parse t).2,x.2.length≤500)∧∀x ∈ (Ent.parse t).1,Lb.EntB x∧x.fields.length≤1000:=by
 have h1:=Ent.parse_short t
 have h2:=Ent.parse_notes t
 have h3:=Ent.parse_good t
 refine ⟨by omega,by omega,fun x hx=>Nat.le_trans (h2.2 x hx) ht,fun x hx=>?_⟩
 obtain ⟨a,b,c,d⟩:=h1.2 x hx
 exact ⟨⟨by omega,by omega,fun f hf=>by have:=d f hf;omega,(h3.2 x hx).texts,by omega⟩,by omega⟩
theorem base1_b (l:Fls) (hl:∀x ∈ l,x.2.length≤500) (k:Nat) (σ:St) (h:StB k σ) (b:List UInt8) (hb:b.length≤60):StB (k+1) (base1 l σ b):=by
 have hs:=see_len σ.rs (b++bibW)
 have:=h.rs;have:=h.ns;have:=h.es
 unfold base1
 cases hg:Ix.get l (b++bibW) with
 | none =>
  refine ⟨by show (see _ _).length≤_;omega,by show (σ.ns++[((4:Int),b++bibW)]).length≤_;rw [List.length_append,List.length_singleton];omega,fun x hx=>?_,by show σ.es.length≤_;omega,h.eb⟩
  rcases List.mem_append.1 (show x ∈ σ.ns++[((4:Int),b++bibW)] from hx) with hx | hx
  ·
   exact h.nt x hx
  ·
   rw [List.mem_singleton.1 hx]
   show (b++bibW).length≤500
   rw [List.length_append]
   have:bibW.length=4:=rfl
   omega
 | some t =>
  have ht:t.length≤500:=by
   unfold Ix.get at hg
   cases hf:l.find? (fun x=>x.1 == b++bibW) with
   | none=>rw [hf] at hg;cases hg
   | some x =>
    rw [hf] at hg
    cases hg
    exact hl x (List.mem_of_find?_eq_some hf)
  obtain ⟨p1,p2,p3,p4⟩:=parse_b t ht
  refine ⟨by show (see _ _).length≤_;omega,by show (σ.ns++(Ent.parse t).2).length≤_;rw [List.length_append];omega,fun x hx=>?_,by show (σ.es++(Ent.parse t).1).length≤_;rw [List.length_append];omega,fun x hx=>?_⟩
  ·
   rcases List.mem_append.1 (show x ∈ σ.ns++(Ent.parse t).2 from hx) with hx | hx
   ·
    exact h.nt x hx
   ·
    exact p3 x hx
  ·
   rcases List.mem_append.1 (show x ∈ σ.es++(Ent.parse t).1 from hx) with hx | hx
   ·
    exact h.eb x hx
   ·
    exact p4 x hx
theorem bases_b (l:Fls) (hl:∀x ∈ l,x.2.length≤500):∀(bs:List (List UInt8)) (k:Nat) (σ:St),StB k σ→(∀b ∈ bs,b.length≤60)→StB (k+bs.length) (bases l σ bs)
 | [],k,σ,h,_=>h
 | b::bs,k,σ,h,hb=>by
  have h1:=base1_b l hl k σ h b (hb b (by simp))
  have h2:=bases_b l hl bs (k+1) (base1 l σ b) h1 (fun q hq=>hb q (List.mem_cons_of_mem _ hq))
  have e:k+(b::bs).length=k+1+bs.length:=by rw [List.length_cons];omega
  rw [e];exact h2
theorem st0_b (l:Fls) (job:List UInt8) (hj:job.length≤20):StB 0 (st0 l job):=by
 have h4:auxW.length=4:=rfl
 refine ⟨Nat.le_refl _,?_,fun x hx=>?_,Nat.le_refl _,fun x hx=>by cases hx⟩
 ·
  show (note0 _ _).length≤_
  unfold note0;split <;> simp
 ·
  have hx:x ∈ note0 (text l job) (job++auxW):=hx
  unfold note0 at hx
  split at hx
  ·
   cases hx
  ·
   rw [List.mem_singleton.1 hx]
   show (job++auxW).length≤500
   rw [List.length_append];omega
theorem text_le (l:Fls) (hl:∀x ∈ l,x.2.length≤500) (n:List UInt8):((Ix.get l n).getD []).length≤500:=by
 cases hg:Ix.get l n with
 | none=>simp
 | some t =>
  unfold Ix.get at hg
  cases hf:l.find? (fun x=>x.1 == n) with
  | none=>rw [hf] at hg;cases hg
  | some x =>
   rw [hf] at hg
   cases hg
   exact hl x (List.mem_of_find?_eq_some hf)
structure CitB (c:Lb.Cited):Prop where
 key:c.ent.key.length≤1000
 label:c.label.length≤999999
 text:c.text.length≤999999
theorem cit_len (c:Lb.Cited) (h:CitB c):(cit c).length≤4000000:=by
 have h1:=Sd.put_le c.ent.key (by have:=h.key;omega)
 have h2:=Sd.put_le c.label h.label
 have h3:=Sd.put_le c.text h.text
 have:=h.key;have:=h.label;have:=h.text
 unfold cit
 rw [List.length_append,List.length_append]
 omega
theorem bbl_len:∀(cs:List Lb.Cited),(∀c ∈ cs,CitB c)→(bblOf cs).length≤cs.length*4000000
 | [],_=>by simp [bblOf]
 | c::cs,h=>by
  have h1:=cit_len c (h c (by simp))
  have h2:=bbl_len cs (fun q hq=>h q (List.mem_cons_of_mem _ hq))
  unfold bblOf at h2 ⊢
  rw [List.flatMap_cons,List.length_append,List.length_cons]
  omega
theorem all_b (es:List Ent.Ent) (ks:List (List UInt8)) (style:Int) (h:∀x ∈ es,Lb.EntB x∧x.fields.length≤1000) (hl:es.length≤100000) (hk:ks.length≤39):(Lb.all es ks style).1.length≤39∧∀c ∈ (Lb.all es ks style).1,CitB c:=by
 have hp:=Lb.pick_b es h hl ks
 have hn:=(Lb.pick_le es ks).1
 have ho:=Lb.order_perm (Lb.pick es ks).1
 unfold Lb.all Lb.tagged
 dsimp only
 have hol:=ho.length_eq
 refine ⟨by rw [List.length_mapIdx];omega,fun c hc=>?_⟩
 obtain ⟨i,hi,rfl⟩:=List.mem_mapIdx.1 hc
 have hx:=hp _ (ho.mem_iff.1 (List.getElem_mem hi))
 exact ⟨hx.key,Lb.tag_fine _ _ _ _ (by rw [List.length_map];omega) (Lb.letters_len _),Lb.text_fine _ hx⟩
end Bb
end Go.Proofs.YtgnfmopcialllaaGreatDoor
