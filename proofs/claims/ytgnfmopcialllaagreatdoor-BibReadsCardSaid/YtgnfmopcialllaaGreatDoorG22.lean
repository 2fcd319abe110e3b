/- The walk of label.Pick. The walk of label.Text. The walk of label.All. -/
import Derived.Test.YtgnfmopcialllaaGreatDoorTk
import Derived.Test.YtgnfmopcialllaaGreatDoorLbWa
import Derived.Test.YtgnfmopcialllaaGreatDoorG05
import Derived.Test.YtgnfmopcialllaaGreatDoorG02
import Derived.Test.YtgnfmopcialllaaGreatDoorG14
import Derived.Test.YtgnfmopcialllaaGreatDoorG06
set_option linter.unusedSimpArgs false
set_option linter.unusedVariables false
namespace Go.Proofs.YtgnfmopcialllaaGreatDoor
open Go.RowKit
theorem whole_err (l:List Ent.Ent):∀(n:Nat) (key:List UInt8) (seen:List (List UInt8)) (fs:List Ent.Fld) (e:Int),Lb.wholeN l n key seen fs=(none,e)→e=14∨e=15
 | 0,_,_,_,e,h=>by simp [Lb.wholeN] at h;omega
 | n+1,key,seen,fs,e,h=>by
  rw [Lb.wholeN] at h
  split at h
  ·
   simp at h;omega
  ·
   next x hx =>
   dsimp only at h
   split at h
   ·
    simp at h
   ·
    split at h
    ·
     simp at h;omega
    ·
     exact whole_err l n _ _ _ e h
theorem whole_found (l:List Ent.Ent) (n:Nat) (key:List UInt8) (fs:List Ent.Fld) (e:Int) (h:Lb.wholeN l (n+1) key [] []=(some fs,e)):∃x,Lb.findE l key=some x:=by
 rw [Lb.wholeN] at h
 split at h
 ·
  simp at h
 ·
  next x hx=>exact ⟨x,hx⟩
theorem wholeE_some (l:List Ent.Ent) (key:List UInt8) (fs:List Ent.Fld) (h:Lb.wholeN l (l.length+1) key [] []=(some fs,0)):Lb.wholeE l key=(some ⟨((Lb.findE l key).getD entZ).kind,((Lb.findE l key).getD entZ).key,fs⟩,0):=by
 obtain ⟨x,hx⟩:=whole_found l _ key fs 0 h
 unfold Lb.wholeE
 rw [h,hx];rfl
theorem wholeE_none (l:List Ent.Ent) (key:List UInt8) (e:Int) (h:Lb.wholeN l (l.length+1) key [] []=(none,e)):Lb.wholeE l key=(none,e):=by
 unfold Lb.wholeE
 rw [h]
theorem Wans.noInv {B:Nat} {w W:World} {x:Ent.Ent} {R:Option (List Ent.Fld) × Int} {vr:Value} {n e:Int} (h:Wans B w x R vr n W) (hR:R=(none,e)):vr = .agg #[.string ⟨#[]⟩,.string ⟨#[]⟩,.slice none 0 0]∧n=e∧Below B w W:=by
 cases h with
 | ok fs vf h1 h2 h3=>rw [h1] at hR;cases hR
 | no n h1 h2=>rw [h1] at hR;cases hR;exact ⟨rfl,rfl,h2⟩
theorem Wans.okInv {B:Nat} {w W:World} {x:Ent.Ent} {R:Option (List Ent.Fld) × Int} {vr:Value} {n e:Int} {fs:List Ent.Fld} (h:Wans B w x R vr n W) (hR:R=(some fs,e)):∃vf,vr = .agg #[.string ⟨x.kind.toArray⟩,.string ⟨x.key.toArray⟩,vf]∧n=0∧e=0∧SliceIn (fun j=>B≤j) 2 RFld W vf fs∧Below B w W:=by
 cases h with
 | ok fs' vf h1 h2 h3=>rw [h1] at hR;cases hR;exact ⟨vf,rfl,rfl,rfl,h2,h3⟩
 | no n h1 h2=>rw [h1] at hR;cases hR
structure Pst (B:Nat) (w:World) (seen:List (List UInt8)) (out:List Ent.Ent) (ns:List (Int × List UInt8)) (vo vn:Value) (W:World):Prop where
 m:IMap W B seen.length (seenN seen)
 o:∃fl,W.ownsRow (B+1) 60 3 vo out.length fl∧RepRow (REnt (fun j=>B+1≤j∧vo.ownBlock≠some j∧vn.ownBlock≠some j) W) out fl
 n:OwnL (B+1) 77 2 RNote W vn ns
 ap:∀q,vo.ownBlock=some q→vn.ownBlock≠some q
 b:Below B w W
section
variable {B:Nat} {w W W':World} {seen:List (List UInt8)} {out:List Ent.Ent} {ns:List (Int × List UInt8)} {vo vn:Value}
theorem Pst.sz (h:Pst B w seen out ns vo vn W):B+1≤W.heap.size:=h.m.lt
theorem Pst.below (h:Pst B w seen out ns vo vn W) (hb:Below W.heap.size W W'):Pst B w seen out ns vo vn W':=by
 obtain ⟨fl,h1,h2⟩:=h.o
 exact ⟨h.m.below hb,⟨fl,own_below h1 hb,h2.imp fun x vs _ hx=>REnt.moved hx (fun j hj hlt=>⟨hj,hb.block j hlt⟩) hb.size⟩,h.n.below hb,h.ap,h.b.trans (hb.mono (by have:=h.sz;omega))⟩
theorem Pst.mapped (h:Pst B w seen out ns vo vn W) (key:List UInt8) (hm:IMap W' B (seen.length+1) (fun t=>if t=key then seenN seen key+1 else seenN seen t)) (ht:W.grownBy W' (some B)):Pst B w (seen++[key]) out ns vo vn W':=by
 have ht:Turn B W W':=ht
 obtain ⟨fl,h1,h2⟩:=h.o
 refine ⟨?_,⟨fl,h1.kept ht (by
  cases hb:vo.ownBlock with
  | none=>exact .inl rfl
  | some g=>exact .inr (fun e=>by have:=(h1.lt g hb).1;injection e with e;omega)),h2.imp fun x vs _ hx=>REnt.moved hx (fun j hj hlt=>⟨hj,ht.block j hlt (fun e=>by have:=hj.1;injection e with e;omega)⟩) ht.size⟩,h.n.turn ht (by omega),h.ap,Turn.belowOf h.b ht (Nat.le_refl _) (by have:=h.sz;omega)⟩
 rw [List.length_append,List.length_singleton]
 refine hm.cong fun s=>?_
 unfold seenN
 rw [List.count_append,List.count_singleton]
 by_cases hs:s=key
 ·
  subst hs;simp
 ·
  rw [if_neg hs]
  have:(key == s)=false:=by rw [beq_eq_false_iff_ne];exact fun e=>hs e.symm
  rw [this];simp
theorem Pst.note (h:Pst B w seen out ns vo vn W) {fl:List Value} {x:Int × List UInt8} {vn':Value} (hold:W.ownsRow (B+1) 77 2 vn ns.length fl) (hrep:RepRow RNote ns fl)
  (hown:W'.ownsRow (B+1) 77 2 vn' (ns.length+1) (fl++[.int .i64 x.1,.string ⟨x.2.toArray⟩])) (hg:W.grownBy W' vn.ownBlock) (hat:vn'.ownBlock=vn.ownBlock∨vn'.ownBlock=some (W.heap.size+1)):Pst B w seen out (ns++[x]) vo vn' W':=by
 obtain ⟨fo,h1,h2⟩:=h.o
 have hlo:∀q,q<B+1→some q≠vn.ownBlock:=fun q hq e=>by have:=(hold.lt q e.symm).1;omega
 refine ⟨h.m.kept (hg.block B h.m.lt (hlo _ (by omega))),⟨fo,h1.kept hg (by
  cases hb:vo.ownBlock with
  | none=>exact .inl rfl
  | some g=>exact .inr (fun e=>h.ap g hb e.symm)),h2.imp fun y vs _ hy=>REnt.moved hy (fun j hj hlt=>⟨⟨hj.1,hj.2.1,fun e=>?_⟩,hg.block j hlt (fun e=>hj.2.2 e.symm)⟩) hg.size⟩,OwnL.more hrep rfl hown,fun q hq e=>?_,?_⟩
 ·
  rcases hat with ha | ha
  ·
   rw [ha] at e;exact hj.2.2 e
  ·
   rw [ha] at e;injection e with e;omega
 ·
  rcases hat with ha | ha
  ·
   rw [ha] at e;exact h.ap q hq e
  ·
   rw [ha] at e;have:=(h1.lt q hq).2;injection e with e;omega
 ·
  exact h.b.trans ⟨hg.os,hg.tape,hg.output,hg.size,fun k hk=>hg.block k (by have:=h.sz;omega) (hlo _ (by omega))⟩
theorem Pst.entry (h:Pst B w seen out ns vo vn W) {fl:List Value} {x:Ent.Ent} {vo' vf:Value} (hold:W.ownsRow (B+1) 60 3 vo out.length fl) (hrep:RepRow (REnt (fun j=>B+1≤j∧vo.ownBlock≠some j∧vn.ownBlock≠some j) W) out fl)
  (hF:SliceIn (fun j=>B+1≤j∧vo.ownBlock≠some j∧vn.ownBlock≠some j) 2 RFld W vf x.fields)
  (hown:W'.ownsRow (B+1) 60 3 vo' (out.length+1) (fl++[.string ⟨x.kind.toArray⟩,.string ⟨x.key.toArray⟩,vf])) (hg:W.grownBy W' vo.ownBlock) (hat:vo'.ownBlock=vo.ownBlock∨vo'.ownBlock=some (W.heap.size+1)):Pst B w seen (out++[x]) ns vo' vn W':=by
 have hlo:∀q,q<B+1→some q≠vo.ownBlock:=fun q hq e=>by have:=(hold.lt q e.symm).1;omega
 have hmv:∀j,(B+1≤j∧vo.ownBlock≠some j∧vn.ownBlock≠some j)→j<W.heap.size→(B+1≤j∧vo'.ownBlock≠some j∧vn.ownBlock≠some j)∧W'.heap[j]? = W.heap[j]?:=fun j hj hlt=>by
  refine ⟨⟨hj.1,fun e=>?_,hj.2.2⟩,hg.block j hlt (fun e=>hj.2.1 e.symm)⟩
  rcases hat with ha | ha
  ·
   rw [ha] at e;exact hj.2.1 e
  ·
   rw [ha] at e;injection e with e;omega
 obtain ⟨fn,n1,n2⟩:=h.n
 refine ⟨h.m.kept (hg.block B h.m.lt (hlo _ (by omega))),⟨_,by rw [List.length_append];exact hown,RepRow.snoc (x:=x) ⟨vf,rfl,hF.moved hmv hg.size (fun _ _ _ h=>h)⟩ (hrep.imp fun y vs _ hy=>REnt.moved hy hmv hg.size)⟩,⟨fn,n1.kept hg (by
  cases hb:vn.ownBlock with
  | none=>exact .inl rfl
  | some g=>exact .inr (fun e=>h.ap g e.symm hb)),n2⟩,fun q hq e=>?_,?_⟩
 ·
  rcases hat with ha | ha
  ·
   rw [ha] at hq;exact h.ap q hq e
  ·
   rw [ha] at hq;have:=(n1.lt q e).2;injection hq with hq;omega
 ·
  exact h.b.trans ⟨hg.os,hg.tape,hg.output,hg.size,fun k hk=>hg.block k (by have:=h.sz;omega) (hlo _ (by omega))⟩
theorem Pst.outs (h:Pst B w seen out ns vo vn W):Ents (fun j=>B≤j) W vo out:=by
 obtain ⟨fl,h1,h2⟩:=h.o
 exact SliceIn.own h1 (h2.imp fun x vs _ hx=>REnt.moved hx (fun j hj hlt=>⟨show B≤j by omega,rfl⟩) (Nat.le_refl _)) (fun x vs hx=>REnt.size x vs hx) rfl (fun b hb=>by have:=(h1.lt b hb).1;omega)
theorem Pst.nots (h:Pst B w seen out ns vo vn W):SliceIn (fun j=>B≤j) 2 RNote W vn ns:=h.n.slice RNote.size _ (fun b hb=>by omega)
end
set_option maxRecDepth 100000 in
set_option maxHeartbeats 3200000 in
theorem lb_Pick (l:List Ent.Ent) (v:Value) (ks:List (List UInt8)) (vk:Value) (S:Nat→Prop) (w:World) (hE:Ents (fun j=>j<w.heap.size) w v l) (hK:SliceIn S 1 RStr w vk ks) (hl:l.length≤1000000) (hok:∀x ∈ l,Lb.EntB x∧x.fields.length≤1000) (hkl:ks.length≤1000) (hks:∀k ∈ ks,k.length≤maxLen) :
  Calls Tryz.prog 36 #[v,vk] w fun e w'=>(∃vo vn,e = .returned (.tuple #[vo,vn])∧Ents (fun j=>w.heap.size≤j) w' vo (Lb.pick l ks).1∧SliceIn (fun j=>w.heap.size≤j) 2 RNote w' vn (Lb.pick l ks).2)∧Below w.heap.size w w':=by
 obtain ⟨i0,hi,hz0,hz1,hz2⟩:=info_parts eent_info
 have Hi:=η hi;have Hz0:=η hz0;have Hz1:=η hz1;have Hz2:=η hz2;clear hi hz0 hz1 hz2
 obtain ⟨i1,hi,hz0,hz1,hz2⟩:=info_parts note_info
 have Hj:=η hi;have Hy0:=η hz0;have Hy1:=η hz1;have Hy2:=η hz2;clear hi hz0 hz1 hz2
 have hmm:=@run_makeMap Tryz.prog
 obtain ⟨pk,ck,hvk,hkc⟩:∃p c,vk = .slice p ks.length c∧True:=by obtain ⟨p,c,hv,_⟩:=hK;exact ⟨p,c,hv,trivial⟩
 subst hvk
 have hP0:Pst w.heap.size w [] [] [] (.slice none 0 0) (.slice none 0 0) (w.alloc (.map #[] 0)) :=
  ⟨(IMap.made w).cong fun s=>by simp [seenN],⟨[],⟨by simp,.inl ⟨rfl,rfl⟩⟩,rfl⟩,OwnL.nil _ _ _ _ _,fun q hq=>by simp [Value.ownBlock] at hq,below_new w _⟩
 have hb0:=below_new w (.map #[] 0)
 obtain ⟨B,hB⟩:∃B,w.heap.size=B:=⟨_,rfl⟩
 have hEB:∀W,Below B w W→Ents (fun j=>j<W.heap.size) W v l∧SliceIn (fun _=>True) 1 RStr W (.slice pk ks.length ck) ks:=fun W hW=>by
  rw [←hB] at hW
  exact ⟨Ents.kept hE (fun j hj=>Nat.lt_of_lt_of_le hj hW.size) hW.size (fun b hb _=>hW.block b hb),SliceIn.moved hK (fun j _ hlt=>⟨trivial,hW.block j hlt⟩) hW.size (fun _ _ _ h=>h)⟩
 rw [hB] at hP0 ⊢
 have HEB:=η hEB;have Hl:=η hl;have Hok:=η hok;have Hkl:=η hkl;have Hks:=η hks;have HP0:=η hP0
 clear hE hK hEB hl hok hkl hks hP0 hb0 hkc
 go_enter Tryz.func36, Tryz.ntmps36
 go_wp2_with fail
 go_loopw [6,7,16] (fun vo vn iv wr=>∃(k:Nat) (seen:List (List UInt8)) (out:List Ent.Ent) (ns:List (Int × List UInt8)),k≤ks.length∧seen=ks.take k∧iv = .int .i64 (k:Int)∧Pst B w seen out ns vo vn wr∧out.length≤k∧ns.length≤k∧Lb.pick l ks=(out++(Lb.pickN l seen (ks.drop k)).1,ns++(Lb.pickN l seen (ks.drop k)).2)) (fun _ _ iv _=>ks.length - (intOf iv).toNat)
 case atStart=>exact ⟨0,[],[],[],Nat.zero_le _,rfl,rfl,HP0.out,Nat.zero_le _,Nat.zero_le _,rfl⟩
 case round =>
  clear HP0
  obtain ⟨k,seen,out,ns,hk,hseen,rfl,hP,hol,hnl,hR⟩:=hrel
  have HP:=η hP;have HR:=η hR;have Hseen:=η hseen;have Hol:=η hol;have Hnl:=η hnl
  clear hP hR hseen hol hnl
  by_cases hlt:k<ks.length
  ·
   obtain ⟨y,hy⟩:∃y,ks[k]? = some y:=⟨_,List.getElem?_eq_getElem hlt⟩
   obtain ⟨b,off,hq,e0⟩:∃b off,pk=some ⟨b,off,none⟩∧wr.cell? ⟨b,off+k,none⟩=some (.string ⟨y.toArray⟩):=by
    obtain ⟨pa,ca,hv,_,_,hat⟩:=(HEB.out _ HP.out.b).2
    obtain ⟨b,off,vs,rfl,_,_,hR,hc⟩:=hat k y hy
    have hR:vs=_:=hR
    subst hR
    simp only [Value.slice.injEq] at hv
    have h0:=hc 0 _ rfl
    rw [Nat.mul_one,Nat.add_zero] at h0
    exact ⟨b,off,hv.1,h0⟩
   subst hq
   have hlt':(k:Int)<(ks.length:Int):=by omega
   obtain ⟨k1,hk1⟩:∃k1,k1=k+1:=⟨_,rfl⟩
   have hwk:IntKind.i64.wrap ((k:Int)+1)=(k1:Int):=by rw [IntWalk.i64_in _ (by have:=Hkl.out;omega)];omega
   have hdr:ks.drop k=y::ks.drop k1:=by
    obtain ⟨h1,h2⟩:=List.getElem?_eq_some_iff.1 hy
    rw [List.drop_eq_getElem_cons h1,h2,hk1]
   have hst:=HR.out
   rw [hdr,Lb.pickN] at hst
   have hsn:seen++[y]=ks.take k1:=by rw [Hseen.out,hk1,List.take_add_one,hy];rfl
   have hsl:seen.length≤1000:=by rw [Hseen.out,List.length_take];have:=Hkl.out;omega
   have hcb:-9223372036854775808≤seenN seen y+1∧seenN seen y+1≤9223372036854775807:=by unfold seenN;have:=List.count_le_length (a:=y) (l:=seen);omega
   have hwc:IntKind.i64.wrap (seenN seen y+1)=seenN seen y+1:=IntWalk.i64_in _ hcb
   have hone:seenN (seen++[y]) y=seenN seen y+1:=by unfold seenN;rw [List.count_append];simp
   have hsm:seen.length<maxLen:=by unfold maxLen;omega
   have Hcb:=η hcb;have Hsm:=η hsm;have Hst:=η hst;have Hsn:=η hsn;have Hk1:=η hk1;have Hlt:=η hlt;have Hyl:=η (Hks.out y (List.mem_of_getElem? hy));have Hone:=η hone
   clear hcb hsm hst hsn hk1 hlt hsl hdr hy hk hone
   cases hcs:seen.contains y with
   | true =>
    have hgt:(1:Int)<seenN (seen++[y]) y:=by
     rw [Hone.out];unfold seenN
     have:0<seen.count y:=List.count_pos_iff.2 (List.contains_iff_mem.1 hcs)
     omega
    have hs:=Hst.out
    rw [if_pos hcs] at hs
    have Hs:=η hs
    clear hs hcs
    go_wp2_with (first
      | (at_lookup;go_loud (refine wpList_imap_look rfl (.tmp 20) (.tmp 21) rfl B seen.length (seenN seen) rfl HP.out.m y rfl Hyl.out ?_))
      | (at_mapUpdate;go_loud (refine wpList_imap_store rfl (.tmp 20) (.tmp 21) (.tmp 23) rfl B seen.length (seenN seen) rfl HP.out.m y rfl Hyl.out Hsm.out (seenN seen y+1) rfl Hcb.out ?_);intro w6 hm6 hg6;have HP6:=η (HP.out.mapped y hm6 hg6);have HT6:=η hg6;clear hm6 hg6)
      | (at_lookup;go_loud (refine wpList_imap_look rfl (.tmp 24) (.tmp 25) rfl B (seen++[y]).length (seenN (seen++[y])) rfl HP6.out.m y rfl Hyl.out ?_)))
    go_roundw
    case rel=>exact ⟨k1,seen++[y],out,ns,by have:=Hlt.out;have:=Hk1.out;omega,Hsn.out,rfl,HP6.out,by have:=Hol.out;have:=Hk1.out;omega,by have:=Hnl.out;have:=Hk1.out;omega,Hs.out⟩
    case measure=>have:=Hlt.out;have:=Hk1.out;simp [intOf];omega
   | false =>
    have hgt:¬(1:Int)<seenN (seen++[y]) y:=by
     rw [Hone.out];unfold seenN
     have:seen.count y=0:=List.count_eq_zero.2 (fun h=>by have:=List.contains_iff_mem.2 h;rw [hcs] at this;cases this)
     omega
    have hs:=Hst.out
    rw [if_neg (by rw [hcs];exact Bool.false_ne_true)] at hs
    have Hs:=η hs
    clear hs hcs
    go_upto_region 9 with (first
      | (at_lookup;go_loud (refine wpList_imap_look rfl (.tmp 20) (.tmp 21) rfl B seen.length (seenN seen) rfl HP.out.m y rfl Hyl.out ?_))
      | (at_mapUpdate;go_loud (refine wpList_imap_store rfl (.tmp 20) (.tmp 21) (.tmp 23) rfl B seen.length (seenN seen) rfl HP.out.m y rfl Hyl.out Hsm.out (seenN seen y+1) rfl Hcb.out ?_);intro w6 hm6 hg6;have HP6:=η (HP.out.mapped y hm6 hg6);have HT6:=η hg6;clear hm6 hg6)
      | (at_lookup;go_loud (refine wpList_imap_look rfl (.tmp 24) (.tmp 25) rfl B (seen++[y]).length (seenN (seen++[y])) rfl HP6.out.m y rfl Hyl.out ?_)))
    clear e0 hwc hgt
    obtain ⟨ro,re,hre⟩:∃ro re,Lb.wholeN l (l.length+1) y [] []=(ro,re):=⟨_,_,rfl⟩
    cases ro with
    | none =>
     have hwe:=wholeE_none l y re hre
     have hne:=whole_err l _ _ _ _ _ hre
     have hs:=Hs.out
     rw [hwe] at hs
     dsimp only at hs
     have hre0:¬re=0:=by omega
     have Hre:=η hre;have Hs2:=η hs
     clear hwe hs hre hne Hs
     go_upto_region 11 with (go_at_call 69; refine (lb_Whole l v y _ (HEB.out _ HP6.out.b).1 Hl.out Hok.out Hyl.out).mono ?_;rintro e w7 ⟨vr,n7,rfl,hA⟩;obtain ⟨rfl,hn7,hb7⟩:=hA.noInv Hre.out;have hn7:=hn7.symm;subst hn7;have HP7:=η (HP6.out.below hb7);clear hA hb7)
     obtain ⟨w8,hw8⟩:∃W,W=w7.alloc (.cells #[.string ⟨#[]⟩,.string ⟨#[]⟩,.slice none 0 0] 60):=⟨_,rfl⟩
     rw [←hw8]
     have HP8:=η (HP7.out.below (show Below w7.heap.size w7 w8 by rw [hw8];exact below_new _ _))
     obtain ⟨fl,hown,hrep⟩:=HP8.out.n
     have hnn:=Hnl.out
     have hnlen:ns.length≤2000:=by have:=Hlt.out;have:=Hkl.out;omega
     have Hown:=η hown;have Hrep:=η hrep;have Hnlen:=η hnlen;have HSZ:=η HP8.out.sz
     clear hown hrep hnlen hnn hw8 HP7
     go_wp2_with (at_builtin;go_loud (refine wpList_append1 rfl (.tmp 36) (.tmp 40) 40 rfl (B+1) 77 i1 (.agg #[.int .i64 0,.string ⟨#[]⟩]) 2 24 Tryz.underlying40 Hj.out Hy0.out Hy1.out Hy2.out (by rfl) (by decide) _ _ _ Hown.out rfl [.int .i64 re,.string ⟨y.toArray⟩] rfl (by simp) rfl (by simp [Value.oneCell']) (by have:=Hnlen.out;unfold maxLen;omega) (by have:=Hnlen.out;omega) HSZ.out ?_);intro v2 w2 own2 g2 at2;have HP9:=η (HP8.out.note (x:=(re,y)) Hown.out Hrep.out own2 g2 at2))
     go_roundw
     case rel=>exact ⟨k1,seen++[y],out,ns++[(re,y)],by have:=Hlt.out;have:=Hk1.out;omega,Hsn.out,rfl,HP9.out,by have:=Hol.out;have:=Hk1.out;omega,by have:=Hnl.out;have:=Hk1.out;rw [List.length_append,List.length_singleton];omega,by rw [Hs2.out];simp⟩
     case measure=>have:=Hlt.out;have:=Hk1.out;simp [intOf];omega
    | some fs =>
     obtain ⟨x,hx⟩:∃x,(Lb.findE l y).getD entZ=x:=⟨_,rfl⟩
     have Hre:=η hre;have Hx:=η hx
     clear hre hx
     go_upto_region 10 with (go_at_call 69; refine (lb_Whole l v y _ (HEB.out _ HP6.out.b).1 Hl.out Hok.out Hyl.out).mono ?_;rw [Hx.out];rintro e w7 ⟨vr,n7,rfl,hA⟩;obtain ⟨vf,rfl,rfl,hre0,hF,hb7⟩:=hA.okInv Hre.out;obtain ⟨pf,nf,cf,hvf⟩:=SliceIn.shape hF;subst hvf;have HP7:=η (HP6.out.below hb7);have HF7:=η hF;have Hb7:=η hb7;have Hre0:=η hre0;clear hA hb7 hF hre0)
     have hwe:=wholeE_some l y fs (by rw [Hre.out,Hre0.out])
     have hs:=Hs.out
     rw [hwe,Hx.out] at hs
     dsimp only at hs
     have Hs2:=η hs
     clear hwe hs Hs
     obtain ⟨w8,hw8⟩:∃W,W=w7.alloc (.cells #[.string ⟨x.kind.toArray⟩,.string ⟨x.key.toArray⟩,.slice pf nf cf] 60):=⟨_,rfl⟩
     obtain ⟨gx,hgx⟩:∃g,w7.heap.size=g:=⟨_,rfl⟩
     rw [←hw8]
     try rw [hgx]
     have hb8:Below w7.heap.size w7 w8:=by rw [hw8];exact below_new _ _
     have HP8:=η (HP7.out.below hb8)
     have hEx:E3 w8 gx (.string ⟨x.kind.toArray⟩) (.string ⟨x.key.toArray⟩) (.slice pf nf cf):=by rw [hw8,←hgx];exact E3.new _ _ _ _ _
     obtain ⟨fn,n1,_⟩:=HP6.out.n
     obtain ⟨fo,o1,_⟩:=HP6.out.o
     have HF8:=η ((SliceIn.below' HF7.out hb8).kept (S':=fun j=>B+1≤j∧u6.ownBlock≠some j∧u7.ownBlock≠some j) (fun j hj=>⟨Nat.le_trans HP6.out.sz hj,fun e=>by have:=(o1.lt j e).2;have:=hj;omega,fun e=>by have:=(n1.lt j e).2;have:=hj;omega⟩) (Nat.le_refl _) (fun _ _ _=>rfl) (fun _ _ _ h=>h))
     clear n1 o1
     obtain ⟨fl,hown,hrep⟩:=HP8.out.o
     have holen:out.length≤2000:=by have:=Hol.out;have:=Hlt.out;have:=Hkl.out;omega
     have Hown:=η hown;have Hrep:=η hrep;have Holen:=η holen;have HSZ:=η HP8.out.sz
     have c0:=hEx.c0;have c1:=hEx.c1;have c2:=hEx.c2
     clear hown hrep holen hw8 hgx HP7 HF7 hb8 hEx
     go_wp2_with (at_builtin;go_loud (refine wpList_append1 rfl (.tmp 42) (.tmp 44) 52 rfl (B+1) 60 i0 (.agg #[.string ⟨#[]⟩,.string ⟨#[]⟩,.slice none 0 0]) 3 56 Tryz.underlying52 Hi.out Hz0.out Hz1.out Hz2.out (by rfl) (by decide) _ _ _ Hown.out rfl [.string ⟨x.kind.toArray⟩,.string ⟨x.key.toArray⟩,.slice pf nf cf] rfl (by simp) rfl (by simp [Value.oneCell']) (by have:=Holen.out;unfold maxLen;omega) (by have:=Holen.out;omega) HSZ.out ?_);intro v2 w2 own2 g2 at2;have HP9:=η (HP8.out.entry (x:=⟨x.kind,x.key,fs⟩) Hown.out Hrep.out HF8.out own2 g2 at2))
     go_roundw
     case rel=>exact ⟨k1,seen++[y],out++[⟨x.kind,x.key,fs⟩],ns,by have:=Hlt.out;have:=Hk1.out;omega,Hsn.out,rfl,HP9.out,by have:=Hol.out;have:=Hk1.out;rw [List.length_append,List.length_singleton];omega,by have:=Hnl.out;have:=Hk1.out;omega,by rw [Hs2.out];simp⟩
     case measure=>have:=Hlt.out;have:=Hk1.out;simp [intOf];omega
  ·
   have hlt':¬(k:Int)<(ks.length:Int):=by omega
   have hfin:Lb.pick l ks=(out,ns):=by
    have:=HR.out
    rw [List.drop_of_length_le (by omega)] at this
    rw [this];simp [Lb.pickN]
   have Hfin:=η hfin
   clear hlt hk hfin
   go_wp2_with fail
   go_ret2
   refine ⟨⟨_,_,rfl,?_,?_⟩,HP.out.b⟩
   ·
    rw [Hfin.out];exact HP.out.outs
   ·
    rw [Hfin.out];exact HP.out.nots
end Go.Proofs.YtgnfmopcialllaaGreatDoor
set_option linter.unusedSimpArgs false
set_option linter.unusedVariables false
namespace Go.Proofs.YtgnfmopcialllaaGreatDoor
open Go.RowKit
theorem dots_snoc (l:List (List UInt8)) (p:List UInt8):Lb.dots (l++[p])=if p=[] then Lb.dots l else if Lb.dots l=[] then p++[46] else Lb.dots l++[32]++(p++[46]):=by
 unfold Lb.dots Lb.full
 rw [List.filter_append]
 by_cases hp:p=[]
 ·
  subst hp;simp
 ·
  have hpe:p.isEmpty=false:=by cases p with | nil=>exact absurd rfl hp | cons _ _=>rfl
  rw [if_neg hp,List.filter_cons,hpe]
  simp only [Bool.not_false,if_true,List.filter_nil,List.map_append,List.map_cons,List.map_nil]
  generalize l.filter (fun w=>!w.isEmpty)=f
  unfold Lb.join
  cases f with
  | nil=>simp [Lib.join_one,Lib.join_nil]
  | cons a r =>
   rw [List.map_cons,List.cons_append,Lib.join_cons,Lib.join_cons]
   rw [if_neg (by simp)]
   simp [Lib.joinTail]
theorem dots_len (l:List (List UInt8)):(Lb.dots l).length≤2*Lb.tot l:=by
 unfold Lb.dots
 refine Nat.le_trans (Lb.join_le _) ?_
 refine Nat.le_trans (m:=2*Lb.tot (Lb.full l)) ?_ (Nat.mul_le_mul_left _ (Lb.tot_full l))
 generalize Lb.full l=f
 induction f with
 | nil=>exact Nat.zero_le _
 | cons a r ih=>rw [List.map_cons,Lb.tot_cons,Lb.tot_cons,List.length_append,List.length_singleton];omega
set_option maxRecDepth 100000 in
set_option maxHeartbeats 3200000 in
theorem lb_Text (x:Ent.Ent) (vf:Value) (m:Int) (S:Nat→Prop) (w:World) (hF:SliceIn S 2 RFld w vf x.fields) (hB:Lb.EntB x) (hm:w.cell? ⟨2, 0,none⟩=some (.int .i64 m)) (h0 : 2 < w.heap.size) :
  Calls Tryz.prog 39 #[.agg #[.string ⟨x.kind.toArray⟩,.string ⟨x.key.toArray⟩,vf]] w fun e w'=>e = .returned (.string ⟨(Lb.textOf x).toArray⟩)∧Below w.heap.size w w':=by
 obtain ⟨i0,hi,hz0,hz1,hz2⟩:=info_parts str_info
 have Hi:=η hi;have Hz0:=η hz0;have Hz1:=η hz1;have Hz2:=η hz2;clear hi hz0 hz1 hz2
 have hb0:=below_new w (.cells #[.string ⟨x.kind.toArray⟩,.string ⟨x.key.toArray⟩,vf] 60)
 have hE:=E3.new w 60 (.string ⟨x.kind.toArray⟩) (.string ⟨x.key.toArray⟩) vf
 have c0:=hE.c0;have c1:=hE.c1;have c2:=hE.c2
 obtain ⟨g0,hg0⟩:∃g0,w.heap.size=g0:=⟨_,rfl⟩
 rw [hg0] at hE
 have hM:=keptM hm h0 hb0
 have HE:=η hE;have HF:=η (SliceIn.below' hF hb0);have Hb0:=η hb0;have Hm:=η hm;have H0:=η h0;have HB:=η hB
 have hyl:=hB.field Lb.yearW;have htl:=hB.field Lb.titleW
 have hal:=hB.authors.1;have hap:=hB.authors.2
 have htj:=Lb.joined_len x hB
 have htx:Lb.textOf x=Lb.dots [Lib.join ((Lb.authors x).map Lb.short) [44,32],Lb.field x Lb.titleW,Lb.field x Lb.yearW]:=rfl
 obtain ⟨A,hA⟩:∃A,Lb.authors x=A:=⟨_,rfl⟩
 rw [hA] at hal hap htj htx
 have hjl:=Lb.joinS_le (A.map Lb.short) [44,32]
 obtain ⟨J,hJ⟩:∃J,Lib.join (A.map Lb.short) [44,32]=J:=⟨_,rfl⟩
 obtain ⟨T,hT⟩:∃T,Lb.field x Lb.titleW=T:=⟨_,rfl⟩
 obtain ⟨Y,hY⟩:∃Y,Lb.field x Lb.yearW=Y:=⟨_,rfl⟩
 rw [hY] at hyl;rw [hT] at htl;rw [hJ] at hjl;rw [hJ,hT,hY] at htx
 have hjl:J.length≤21000000:=by simp at hjl;omega
 have hjt:Lb.tot [J,T,Y]≤21003000:=by rw [Lb.tot_cons,Lb.tot_cons,Lb.tot_cons,Lb.tot_nil];omega
 have HA:=η hA;have HJ:=η hJ;have HT:=η hT;have HY:=η hY;have Htx:=η htx;have Hjt:=η hjt;have Hap:=η hap;have Hal:=η hal;have HM:=η hM;have Htj:=η (show Lb.tot (A.map Lb.short)≤8000000 by omega)
 have Hlen:=η (show J.length≤21000000∧T.length≤1000∧Y.length≤1000 from ⟨hjl,htl,hyl⟩)
 clear hE hb0 hF hm h0 hB hA hJ hT hY htx hjt hap hal hM htj hjl htl hyl
 go_enter Tryz.func39, Tryz.ntmps39
 go_wp2_with (go_at_call 78; refine (lb_authors x vf m S _ HF.out HB.out HM.out.1 HM.out.2).mono ?_;rw [HA.out];rintro e w1 ⟨⟨va,rfl,hSa⟩,hb1⟩;have HE1:=η (HE.out.below' hb1);have HF1:=η (SliceIn.below' HF.out hb1);have Hb1:=η (bseq Hb0.out hb1);have HSa:=η hSa.strong;obtain ⟨pv,cv,hv,_⟩:=hSa;subst hv;clear hb1)
 clear c0 c1 c2
 have Hg0:=η (show g0<w1.heap.size from HE1.out.lt)
 go_loopw [3,12] (fun ov iv wr=>∃(k:Nat),k≤A.length∧iv = .int .i64 (k:Int)∧OwnL w1.heap.size 9 1 RStr wr ov ((A.take k).map Lb.short)∧Below w1.heap.size w1 wr) (fun _ iv _=>A.length - (intOf iv).toNat)
 case atStart=>exact ⟨0,Nat.zero_le _,rfl,OwnL.nil _ _ _ _ _,Below.refl _ _⟩
 case round =>
  obtain ⟨k,hk,rfl,hO,hb⟩:=hrel
  have Hb:=η hb
  by_cases hlt:k<A.length
  ·
   obtain ⟨y,hy⟩:∃y,A[k]? = some y:=⟨_,List.getElem?_eq_getElem hlt⟩
   obtain ⟨pa,ca,hv,_,_,hat⟩:=SliceIn.below' HSa.out hb
   obtain ⟨b,off,vs,rfl,_,hbw,hR,hc⟩:=hat k y hy
   have hR:vs=_:=hR
   subst hR
   simp only [Value.slice.injEq] at hv
   obtain ⟨rfl,hnn,rfl⟩:=hv
   clear hnn
   have e0:wr.cell? ⟨b,off+k*4,none⟩=some (.string ⟨y.first.toArray⟩):=hc 0 _ rfl;have e1:wr.cell? ⟨b,off+k*4+1,none⟩=some (.string ⟨y.von.toArray⟩):=hc 1 _ rfl;have e2:wr.cell? ⟨b,off+k*4+2,none⟩=some (.string ⟨y.last.toArray⟩):=hc 2 _ rfl;have e3:wr.cell? ⟨b,off+k*4+3,none⟩=some (.string ⟨y.jr.toArray⟩):=hc 3 _ rfl
   have hlt':(k:Int)<(A.length:Int):=by omega
   have hyB:=Hap.out y (List.mem_of_getElem? hy)
   obtain ⟨k1,hk1⟩:∃k1,k1=k+1:=⟨_,rfl⟩
   have hwk:IntKind.i64.wrap ((k:Int)+1)=(k1:Int):=by rw [IntWalk.i64_in _ (by have:=Hal.out;omega)];omega
   have hsn:((A.take k1).map Lb.short)=((A.take k).map Lb.short)++[Lb.short y]:=by rw [hk1,List.take_add_one,hy];simp
   have hml:((A.take k).map Lb.short).length=k:=by rw [List.length_map,List.length_take];omega
   have hnm:((A.take k).map Lb.short).length+1≤9223372036854775807:=by have:=Hal.out;omega
   have hn47:(((A.take k).map Lb.short).length+1)*16≤140737488355328:=by have:=Hal.out;omega
   obtain ⟨fl,hown,hrep⟩:=hO
   have Hsn:=η hsn;have Hlt:=η hlt;have Hk1:=η hk1;have Hown:=η hown;have Hrep:=η hrep;have Hnm:=η hnm;have Hn47:=η hn47;have HyB:=η hyB
   clear hown hrep hsn hlt hk1 hml hnm hn47 hy hb hk hyB hc hat hbw
   go_wp2_with (first
    | (go_at_call 79; refine (nm_Short y _ HyB.out).mono ?_;rintro e w5 ⟨rfl,hb5⟩;have hb6:=(Below.alloc (Below.refl wr.heap.size wr) (Nat.le_refl _) _).trans (hb5.mono (by simp));have Hown5:=η (own_below Hown.out hb6);have Hb5:=η (Hb.out.trans (hb6.mono Hb.out.size));have HSZ5:=η Hb5.out.size;clear hb5 hb6)
    | (at_builtin;go_loud (refine wpList_append1 rfl (.tmp 16) (.tmp 19) 24 rfl w1.heap.size 9 i0 (.string ⟨#[]⟩) 1 16 Tryz.underlying24 Hi.out Hz0.out Hz1.out Hz2.out (by rfl) (by decide) _ _ _ Hown5.out rfl [.string ⟨(Lb.short y).toArray⟩] rfl (by simp) rfl (by simp [Value.oneCell']) Hnm.out Hn47.out HSZ5.out ?_);intro v2 w2 own2 g2 at2))
   go_roundw
   case rel=>exact ⟨k1,by have:=Hlt.out;have:=Hk1.out;omega,rfl,by rw [Hsn.out];exact OwnL.more Hrep.out rfl own2,Hb5.out.grown g2 Hb5.out.size (fun q e=>(Hown5.out.lt q e).1)⟩
   case measure=>have:=Hlt.out;have:=Hk1.out;simp [intOf];omega
  ·
   have hlt':¬(k:Int)<(A.length:Int):=by omega
   have htk:A.take k=A:=List.take_of_length_le (by omega)
   rw [htk] at hO
   have HSo:=η (hO.slice RStr.size (fun j=>w1.heap.size≤j) (fun _ h=>h))
   obtain ⟨po,co,hpo⟩:=hO.form
   subst hpo
   rw [List.length_map]
   rw [List.length_map] at HSo
   have HE9:=η (HE1.out.below hb Hg0.out)
   have HF9:=η (SliceIn.below' HF1.out hb)
   have HBr:=η (Hb1.out.trans (hb.mono Hb1.out.size))
   clear hlt hk hO htk hb Hb
   go_upto_region 8 with fail
   refine wp_region_any (by kernel_rfl) ?_
   change wpAny _ _ _ _ _ _ _ (World.drew _)
   have HEd:=η HE9.out.drew;have HSd:=η (HSo.out.below' (Below.refl _ _).drew);have HFd:=η (SliceIn.below' HF9.out (Below.refl _ _).drew);have HBd:=η HBr.out.drew
   clear HE9 HSo HF9 HBr
   generalize wr.drew=wd at *
   have hS0:=Below.refl wd.heap.size wd
   refine wpAny_of_held (S:=fun W=>Below wd.heap.size wd W) _ _ _ _ ?_
   refine tk 0 (.slice po A.length co) rfl (h:=?_)
   refine tk 2 (.agg #[.string ⟨x.kind.toArray⟩,.string ⟨x.key.toArray⟩,vf]) rfl (hy:=fun W hW=>by (obtain ⟨c0,c1,c2,_,_⟩:=HEd.out.below' hW;go_simp)) (h:=?_)
   refine tk 4 (.agg #[.string ⟨x.kind.toArray⟩,.string ⟨x.key.toArray⟩,vf]) rfl (hy:=fun W hW=>by (obtain ⟨c0,c1,c2,_,_⟩:=HEd.out.below' hW;go_simp)) (h:=?_)
   refine tk 8 (.int .i64 0) rfl (h:=?_)
   try simp only [Act.put,π1,π2,π3,π4,π5,π6]
   refine tr 1 rfl (h:=fun K hK=>?_)
   go_simp
   go_wp2_with (go_at_call 80; refine (nm_Join [44,32] (A.map Lb.short) _ _ _ HSd.out Htj.out (by decide)).mono ?_;rw [HJ.out];rintro e w5 ⟨rfl,hb5⟩;have Hb5:=η hb5;clear hb5)
   refine hK.out _ _ (Hb5.out) (fun _=>?_)
   clear K hK
   try simp only [Act.put,π1,π2,π3,π4,π5,π6]
   refine tr 3 rfl (h:=fun K hK=>?_)
   go_simp
   go_wp2_with (go_at_call 76; refine (lb_field x vf Lb.titleW S _ (SliceIn.below' HFd.out Hb5.out)).mono ?_;rw [HT.out];rintro e w6 ⟨rfl,hb6⟩;have Hb6:=η (bseq Hb5.out hb6);clear hb6)
   refine hK.out _ _ (Hb6.out) (fun _=>?_)
   clear K hK
   try simp only [Act.put,π1,π2,π3,π4,π5,π6]
   refine tr 5 rfl (h:=fun K hK=>?_)
   go_simp
   go_wp2_with (go_at_call 76; refine (lb_field x vf Lb.yearW S _ (SliceIn.below' HFd.out Hb6.out)).mono ?_;rw [HY.out];rintro e w7 ⟨rfl,hb7⟩;have Hb7:=η (bseq Hb6.out hb7);clear hb7)
   refine hK.out _ _ (Hb7.out) (fun _=>?_)
   clear K hK
   try simp only [Act.put,π1,π2,π3,π4,π5,π6]
   refine tr 6 rfl (h:=fun K hK=>?_)
   go_simp
   obtain ⟨w8,hw8⟩:∃W,W=w7.alloc (.cells #[.string ⟨J.toArray⟩,.string ⟨T.toArray⟩,.string ⟨Y.toArray⟩] 9):=⟨_,rfl⟩
   rw [←hw8]
   have hO8:OwnL w7.heap.size 9 1 RStr w8 (.slice (some ⟨w7.heap.size,0,none⟩) 3 3) [J,T,Y]:=by
    rw [hw8]
    exact ⟨[.string ⟨J.toArray⟩,.string ⟨T.toArray⟩,.string ⟨Y.toArray⟩],own_built w7 w7.heap.size 9 1 3 [.string ⟨J.toArray⟩,.string ⟨T.toArray⟩,.string ⟨Y.toArray⟩] (Nat.le_refl _) rfl (by unfold maxLen;omega),strs_rep _⟩
   have Hb8:=η (bseq Hb7.out (show Below w7.heap.size w7 w8 by rw [hw8];exact below_new _ _))
   have HO8:=η (hO8.slice RStr.size (fun _=>True) (fun _ _=>trivial));clear hO8 hw8
   refine hK.out _ _ Hb8.out (fun _=>?_)
   clear K hK
   refine tk 7 (.int .i64 3) rfl (hy:=fun W hW=>by go_simp) (h:=?_)
   try simp only [Act.put,π1,π2,π3,π4,π5,π6]
   refine wpAnyH_done (by kernel_rfl) ?_ _
   go_wp2_with fail
   have Hb9:=η (HBd.out.trans (Hb8.out.mono HBd.out.size))
   go_loopw [6,30] (fun sv iv wr=>∃(k:Nat),k≤3∧iv = .int .i64 (k:Int)∧sv = .string ⟨(Lb.dots ([J,T,Y].take k)).toArray⟩∧Below w8.heap.size w8 wr) (fun _ iv _=>3 - (intOf iv).toNat)
   case atStart=>exact ⟨0,Nat.zero_le _,rfl,rfl,Below.refl _ _⟩
   case round =>
    obtain ⟨k,hk,rfl,rfl,hb⟩:=hrel
    have Hb:=η hb
    by_cases hlt:k<3
    ·
     obtain ⟨y,hy⟩:∃y,[J,T,Y][k]? = some y:=⟨_,List.getElem?_eq_getElem hlt⟩
     have e0:=(SliceIn.below' HO8.out hb).cellS hy
     rw [Nat.zero_add] at e0
     have hlt':(k:Int)<3:=by omega
     obtain ⟨k1,hk1⟩:∃k1,k1=k+1:=⟨_,rfl⟩
     have hwk:IntKind.i64.wrap ((k:Int)+1)=(k1:Int):=by rw [IntWalk.i64_in _ (by omega)];omega
     have hsn:Lb.dots ([J,T,Y].take k1)=if y=[] then Lb.dots ([J,T,Y].take k) else if Lb.dots ([J,T,Y].take k)=[] then y++[46] else Lb.dots ([J,T,Y].take k)++[32]++(y++[46]):=by rw [hk1,List.take_add_one,hy];exact dots_snoc _ _
     have hdl:=dots_len ([J,T,Y].take k)
     have hdt:=Lb.tot_take [J,T,Y] k
     have hyl:=Lb.mem_tot [J,T,Y] y (List.mem_of_getElem? hy)
     have hjt:=Hjt.out
     have hD3:(Lb.dots ([J,T,Y].take k)).length≤43000000:=by omega
     have hY3:y.length≤21003000:=by omega
     obtain ⟨D,hD⟩:∃D,Lb.dots ([J,T,Y].take k)=D:=⟨_,rfl⟩
     rw [hD] at hsn hD3 ⊢
     have hk3:k1≤3∧3 - k1<3 - k:=by omega
     have Hsn:=η hsn;have Hk3:=η hk3
     clear hsn hk3 hdl hdt hyl hjt hD hy hb hk hlt hk1
     by_cases hye:y=[]
     ·
      subst hye
      go_wp2_with fail
      go_roundw
      case rel=>exact ⟨k1,Hk3.out.1,rfl,by rw [Hsn.out,if_pos rfl],Hb.out⟩
      case measure=>simpa [intOf] using Hk3.out.2
     ·
      have hye2:y.isEmpty=false:=by cases y with | nil=>exact absurd rfl hye | cons _ _=>rfl
      have h46:(⟨y.toArray⟩:ByteArray)++⟨#[46]⟩=⟨(y++[46]).toArray⟩:=append_data y [46]
      by_cases hDe:D=[]
      ·
       subst hDe
       have h47:(⟨#[]⟩:ByteArray)++⟨(y++[46]).toArray⟩=⟨(y++[46]).toArray⟩:=append_data [] (y++[46])
       obtain ⟨z,hz⟩:∃z,y++[46]=z:=⟨_,rfl⟩
       have hzl:z.length≤21003001:=by rw [←hz,List.length_append,List.length_singleton];omega
       rw [hz] at h46 h47
       have Hz:=η hz
       clear hz
       go_wp2_with fail
       go_roundw
       case rel=>exact ⟨k1,Hk3.out.1,rfl,by rw [Hsn.out,if_neg hye,if_pos rfl,Hz.out],Hb.out⟩
       case measure=>simpa [intOf] using Hk3.out.2
      ·
       have hDe2:D.isEmpty=false:=by cases D with | nil=>exact absurd rfl hDe | cons _ _=>rfl
       have h32:(⟨D.toArray⟩:ByteArray)++⟨#[32]⟩=⟨(D++[32]).toArray⟩:=append_data D [32]
       obtain ⟨z,hz⟩:∃z,y++[46]=z:=⟨_,rfl⟩
       have hzl:z.length≤21003001:=by rw [←hz,List.length_append,List.length_singleton];omega
       obtain ⟨D2,hD2⟩:∃D2,D++[32]=D2:=⟨_,rfl⟩
       have hD2l:D2.length≤43000001:=by rw [←hD2,List.length_append,List.length_singleton];omega
       have hfin:=append_data D2 z
       rw [hz] at h46
       rw [hD2] at h32
       have Hz:=η hz;have HD2:=η hD2
       clear hz hD2
       go_wp2_with fail
       go_roundw
       case rel=>exact ⟨k1,Hk3.out.1,rfl,by rw [Hsn.out,if_neg hye,if_neg hDe,Hz.out,HD2.out],Hb.out⟩
       case measure=>simpa [intOf] using Hk3.out.2
    ·
     have hlt':¬(k:Int)<3:=by omega
     have htk:[J,T,Y].take k=[J,T,Y]:=List.take_of_length_le (by simp;omega)
     rw [htk]
     obtain ⟨D,hD⟩:∃D,Lb.dots [J,T,Y]=D:=⟨_,rfl⟩
     have Hf:=η (Htx.out.trans hD)
     rw [hD]
     clear htk hlt hk hb hD
     go_wp2_with fail
     go_ret
     have hbf:=Hb9.out.trans (Hb.out.mono Hb9.out.size)
     first | exact ⟨ret_str Hf.out.symm,hbf⟩ | (rw [hg0] at hbf;exact ⟨ret_str Hf.out.symm,hbf⟩)
end Go.Proofs.YtgnfmopcialllaaGreatDoor
set_option linter.unusedSimpArgs false
set_option linter.unusedVariables false
namespace Go.Proofs.YtgnfmopcialllaaGreatDoor
open Go.RowKit
structure E5 (W:World) (g:Nat) (a b c d e:Value):Prop where
 c0:W.cell? ⟨g,0,none⟩=some a
 c1:W.cell? ⟨g,1,none⟩=some b
 c2:W.cell? ⟨g,2,none⟩=some c
 c3:W.cell? ⟨g,3,none⟩=some d
 c4:W.cell? ⟨g,4,none⟩=some e
 f:∀i,W.frozen? ⟨g,i,none⟩=false
 lt:g<W.heap.size
section
variable {W W':World} {g:Nat} {a b c d e:Value}
theorem E5.new (w:World) (t:TypeId) (a b c d e:Value):E5 (w.alloc (.cells #[a,b,c,d,e] t)) w.heap.size a b c d e:=by
 have h:∀(i:Nat) (u:Value),#[a,b,c,d,e][i]? = some u→(w.alloc (.cells #[a,b,c,d,e] t)).cell? ⟨w.heap.size,i,none⟩=some u:=by
  intro i u hu
  rw [cell_of_row _ _ _ _ _ _ (heap_alloc_new w _)]
  exact hu
 exact ⟨h 0 _ rfl,h 1 _ rfl,h 2 _ rfl,h 3 _ rfl,h 4 _ rfl,fun i=>by simp,lt_alloc w _⟩
theorem E5.below (h:E5 W g a b c d e) {B:Nat} (hb:Below B W W') (hg:g<B):E5 W' g a b c d e :=
 ⟨(hb.cell (p:=⟨g,0,none⟩) hg).trans h.c0,(hb.cell (p:=⟨g,1,none⟩) hg).trans h.c1,(hb.cell (p:=⟨g,2,none⟩) hg).trans h.c2,(hb.cell (p:=⟨g,3,none⟩) hg).trans h.c3,(hb.cell (p:=⟨g,4,none⟩) hg).trans h.c4,
  fun i=>(World.frozen?_of_block (hb.block g hg)).trans (h.f i),Nat.lt_of_lt_of_le h.lt hb.size⟩
theorem E5.below' (h:E5 W g a b c d e) (hb:Below W.heap.size W W'):E5 W' g a b c d e:=h.below hb h.lt
theorem E5.set (h:E5 W g a b c d e) (i:Nat) (v:Value):E5 (W.setCell ⟨g,i,none⟩ v) g (if i=0 then v else a) (if i=1 then v else b) (if i=2 then v else c) (if i=3 then v else d) (if i=4 then v else e):=by
 have key:∀(j:Nat) (u:Value),W.cell? ⟨g,j,none⟩=some u→(W.setCell ⟨g,i,none⟩ v).cell? ⟨g,j,none⟩=some (if i=j then v else u):=fun j u hu=>by
  by_cases hij:i=j
  ·
   subst hij;rw [if_pos rfl];exact World.cell?_setCell_same _ _ _ hu
  ·
   rw [if_neg hij];exact (World.cell?_setCell_other _ _ _ _ (fun e=>hij (by simp only [Addr.mk.injEq,and_true,true_and] at e;exact e))).trans hu
 exact ⟨key 0 _ h.c0,key 1 _ h.c1,key 2 _ h.c2,key 3 _ h.c3,key 4 _ h.c4,fun j=>by simpa using h.f j,by simpa using h.lt⟩
theorem E5.all (h:E5 W g a b c d e) (a' b' c' d' e':Value):E5 (((((W.setCell ⟨g,0,none⟩ a').setCell ⟨g,1,none⟩ b').setCell ⟨g,2,none⟩ c').setCell ⟨g,3,none⟩ d').setCell ⟨g,4,none⟩ e') g a' b' c' d' e' :=
 ((((h.set 0 a').set 1 b').set 2 c').set 3 d').set 4 e'
end
theorem below5 {B g:Nat} {a0 w:World} (h:Below B a0 w) (hg:B≤g) (a b c d e:Value):Below B a0 (((((w.setCell ⟨g,0,none⟩ a).setCell ⟨g,1,none⟩ b).setCell ⟨g,2,none⟩ c).setCell ⟨g,3,none⟩ d).setCell ⟨g,4,none⟩ e) :=
 ((((h.setCell (p:=⟨g,0,none⟩) hg a).setCell (p:=⟨g,1,none⟩) hg b).setCell (p:=⟨g,2,none⟩) hg c).setCell (p:=⟨g,3,none⟩) hg d).setCell (p:=⟨g,4,none⟩) hg e
theorem cit_info:(Tryz.prog.info? 62).map (fun i=>(i.zero,i.size,i.bytes))=some (some (.agg #[.string ⟨#[]⟩,.string ⟨#[]⟩,.slice none 0 0,.string ⟨#[]⟩,.string ⟨#[]⟩]),5,88):=by kernel_rfl
def ccells (l:List (Lb.Cited × Value)):List Value:=l.flatMap fun p=>[.string ⟨p.1.ent.kind.toArray⟩,.string ⟨p.1.ent.key.toArray⟩,p.2,.string ⟨p.1.label.toArray⟩,.string ⟨p.1.text.toArray⟩]
theorem ccells_snoc (l:List (Lb.Cited × Value)) (p:Lb.Cited × Value):ccells (l++[p])=ccells l++[.string ⟨p.1.ent.kind.toArray⟩,.string ⟨p.1.ent.key.toArray⟩,p.2,.string ⟨p.1.label.toArray⟩,.string ⟨p.1.text.toArray⟩]:=by simp [ccells]
theorem ccells_at:∀(es:List (Lb.Cited × Value)) (j:Nat) (p:Lb.Cited × Value),es[j]? = some p → ∀r u,([.string ⟨p.1.ent.kind.toArray⟩,.string ⟨p.1.ent.key.toArray⟩,p.2,.string ⟨p.1.label.toArray⟩,.string ⟨p.1.text.toArray⟩]:List Value)[r]? = some u→(ccells es)[j*5+r]? = some u
 | [],j,p,h=>by simp at h
 | f::fs,0,p,h=>fun r u hr=>by
  simp at h;subst h
  have e:ccells (f::fs)=[.string ⟨f.1.ent.kind.toArray⟩,.string ⟨f.1.ent.key.toArray⟩,f.2,.string ⟨f.1.label.toArray⟩,.string ⟨f.1.text.toArray⟩]++ccells fs:=rfl
  have hlt:=(List.getElem?_eq_some_iff.1 hr).1
  rw [e,List.getElem?_append_left (by simpa using hlt),Nat.zero_mul,Nat.zero_add];exact hr
 | f::fs,j+1,p,h=>fun r u hr=>by
  have h:=ccells_at fs j p (by simpa using h) r u hr
  have e:ccells (f::fs)=[.string ⟨f.1.ent.kind.toArray⟩,.string ⟨f.1.ent.key.toArray⟩,f.2,.string ⟨f.1.label.toArray⟩,.string ⟨f.1.text.toArray⟩]++ccells fs:=rfl
  rw [e,List.getElem?_append_right (by simp;omega)]
  rw [show (j+1)*5+r - [Value.string ⟨f.1.ent.kind.toArray⟩,.string ⟨f.1.ent.key.toArray⟩,f.2,.string ⟨f.1.label.toArray⟩,.string ⟨f.1.text.toArray⟩].length=j*5+r by simp;omega]
  exact h
structure Ast (B M N:Nat) (w:World) (v vn:Value) (o:List Ent.Ent) (ns:List (Int × List UInt8)) (many used:List (List UInt8)) (W:World):Prop where
 e:Ents (fun j=>M+2≤j∧j<N) W v o
 n:SliceIn (fun j=>B≤j∧j<M) 2 RNote W vn ns
 m:IMap W M many.length (seenN many)
 u:IMap W (M+1) used.length (seenN used)
 b:Below B w W
 h1:B≤M
 h2:M+2≤N
 h3:N≤W.heap.size
structure Arow (M N:Nat) (vo:Value) (cs:List (Lb.Cited × Value)) (W:World):Prop where
 r:W.ownsRow N 62 5 vo cs.length (ccells cs)
 f:∀p ∈ cs,SliceIn (fun j=>M+2≤j∧j<N) 2 RFld W p.2 p.1.ent.fields
section
variable {B M N:Nat} {w W W':World} {v vn vo:Value} {o:List Ent.Ent} {ns:List (Int × List UInt8)} {many used:List (List UInt8)} {cs:List (Lb.Cited × Value)}
theorem Ast.keep (h:Ast B M N w v vn o ns many used W) (hz:W.heap.size≤W'.heap.size) (hb:Below B w W') (hk:∀j,j<N→W'.heap[j]? = W.heap[j]?):Ast B M N w v vn o ns many used W' :=
 ⟨Ents.kept h.e (fun _ h=>h) hz (fun j hj _=>hk j hj.2),SliceIn.kept h.n (fun _ h=>h) hz (fun j hj _=>hk j (by have:=hj.2;have:=h.h2;omega)) (fun _ _ _ h=>h),h.m.kept (hk M (by have:=h.h2;omega)),h.u.kept (hk (M+1) (by have:=h.h2;omega)),hb,h.h1,h.h2,Nat.le_trans h.h3 hz⟩
theorem Arow.keep (h:Arow M N vo cs W) (hz:W.heap.size≤W'.heap.size) (hr:W'.ownsRow N 62 5 vo cs.length (ccells cs)) (hk:∀j,j<N→W'.heap[j]? = W.heap[j]?):Arow M N vo cs W' :=
 ⟨hr,fun p hp=>SliceIn.kept (h.f p hp) (fun _ h=>h) hz (fun j hj _=>hk j hj.2) (fun _ _ _ h=>h)⟩
theorem Ast.below (h:Ast B M N w v vn o ns many used W) (hb:Below W.heap.size W W'):Ast B M N w v vn o ns many used W' :=
 h.keep hb.size (h.b.trans (hb.mono (by have:=h.h1;have:=h.h2;have:=h.h3;omega))) (fun j hj=>hb.block j (Nat.lt_of_lt_of_le hj h.h3))
theorem Arow.below (h:Arow M N vo cs W) (hN:N≤W.heap.size) (hb:Below W.heap.size W W'):Arow M N vo cs W' :=
 h.keep hb.size (own_below h.r hb) (fun j hj=>hb.block j (Nat.lt_of_lt_of_le hj hN))
theorem cnt_snoc {W:World} {b:Nat} {seen:List (List UInt8)} {key:List UInt8} (hm:IMap W b (seen.length+1) (fun t=>if t=key then seenN seen key+1 else seenN seen t)):IMap W b (seen++[key]).length (seenN (seen++[key])):=by
 rw [List.length_append,List.length_singleton]
 refine hm.cong fun s=>?_
 unfold seenN
 rw [List.count_append,List.count_singleton]
 by_cases hs:s=key
 ·
  subst hs;simp
 ·
  rw [if_neg hs]
  have:(key == s)=false:=by rw [beq_eq_false_iff_ne];exact fun e=>hs e.symm
  rw [this];simp
theorem Ast.mapM (h:Ast B M N w v vn o ns many used W) (key:List UInt8) (hm:IMap W' M (many.length+1) (fun t=>if t=key then seenN many key+1 else seenN many t)) (ht:W.grownBy W' (some M)):Ast B M N w v vn o ns (many++[key]) used W':=by
 have ht:Turn M W W':=ht
 have hn:∀j,j≠M→j<N→W'.heap[j]? = W.heap[j]?:=fun j hj hlt=>ht.block j (Nat.lt_of_lt_of_le hlt h.h3) (fun e=>hj (by injection e))
 exact ⟨Ents.kept h.e (fun _ h=>h) ht.size (fun j hj _=>hn j (by have:=hj.1;omega) hj.2),SliceIn.kept h.n (fun _ h=>h) ht.size (fun j hj _=>hn j (by have:=hj.2;omega) (by have:=hj.2;have:=h.h2;omega)) (fun _ _ _ h=>h),cnt_snoc hm,h.u.kept (hn (M+1) (by omega) (by have:=h.h2;omega)),Turn.belowOf h.b ht h.h1 (by have:=h.h1;have:=h.h2;have:=h.h3;omega),h.h1,h.h2,Nat.le_trans h.h3 ht.size⟩
theorem Ast.mapU (h:Ast B M N w v vn o ns many used W) (key:List UInt8) (hm:IMap W' (M+1) (used.length+1) (fun t=>if t=key then seenN used key+1 else seenN used t)) (ht:W.grownBy W' (some (M+1))):Ast B M N w v vn o ns many (used++[key]) W':=by
 have ht:Turn (M+1) W W':=ht
 have hn:∀j,j≠M+1→j<N→W'.heap[j]? = W.heap[j]?:=fun j hj hlt=>ht.block j (Nat.lt_of_lt_of_le hlt h.h3) (fun e=>hj (by injection e))
 exact ⟨Ents.kept h.e (fun _ h=>h) ht.size (fun j hj _=>hn j (by have:=hj.1;omega) hj.2),SliceIn.kept h.n (fun _ h=>h) ht.size (fun j hj _=>hn j (by have:=hj.2;omega) (by have:=hj.2;have:=h.h2;omega)) (fun _ _ _ h=>h),h.m.kept (hn M (by omega) (by have:=h.h2;omega)),cnt_snoc hm,Turn.belowOf h.b ht (by have:=h.h1;omega) (by have:=h.h1;have:=h.h2;have:=h.h3;omega),h.h1,h.h2,Nat.le_trans h.h3 ht.size⟩
theorem Arow.mapped (h:Arow M N vo cs W) {q:Nat} (hq:q=M∨q=M+1) (hM:M+2≤N) (hN:N≤W.heap.size) (ht:W.grownBy W' (some q)):Arow M N vo cs W':=by
 have ht:Turn q W W':=ht
 exact ⟨h.r.kept ht (by
  cases hb:vo.ownBlock with
  | none=>exact .inl rfl
  | some g=>exact .inr (fun e=>by have:=(h.r.lt g hb).1;injection e with e;omega)),fun p hp=>SliceIn.kept (h.f p hp) (fun _ h=>h) ht.size (fun j hj hlt=>ht.block j hlt (fun e=>by have:=hj.1;injection e with e;omega)) (fun _ _ _ h=>h)⟩
theorem Arow.app (h:Arow M N vo cs W) {c:Lb.Cited} {vf vo':Value} (hF:SliceIn (fun j=>M+2≤j∧j<N) 2 RFld W vf c.ent.fields) (hN:N≤W.heap.size)
  (hown:W'.ownsRow N 62 5 vo' (cs.length+1) (ccells cs++[.string ⟨c.ent.kind.toArray⟩,.string ⟨c.ent.key.toArray⟩,vf,.string ⟨c.label.toArray⟩,.string ⟨c.text.toArray⟩])) (hg:W.grownBy W' vo.ownBlock):Arow M N vo' (cs++[(c,vf)]) W':=by
 have hk:∀j,j<N→W'.heap[j]? = W.heap[j]?:=fun j hj=>hg.block j (Nat.lt_of_lt_of_le hj hN) (fun e=>by have:=(h.r.lt j e.symm).1;omega)
 refine ⟨by rw [List.length_append,ccells_snoc];exact hown,fun p hp=>?_⟩
 rcases List.mem_append.1 hp with hp | hp
 ·
  exact SliceIn.kept (h.f p hp) (fun _ h=>h) hg.size (fun j hj _=>hk j hj.2) (fun _ _ _ h=>h)
 ·
  simp only [List.mem_singleton] at hp;subst hp
  exact SliceIn.kept hF (fun _ h=>h) hg.size (fun j hj _=>hk j hj.2) (fun _ _ _ h=>h)
theorem Ast.app (h:Ast B M N w v vn o ns many used W) (hr:Arow M N vo cs W) (hg:W.grownBy W' vo.ownBlock):Ast B M N w v vn o ns many used W':=by
 have hk:∀j,j<N→W'.heap[j]? = W.heap[j]?:=fun j hj=>hg.block j (Nat.lt_of_lt_of_le hj h.h3) (fun e=>by have:=(hr.r.lt j e.symm).1;omega)
 exact h.keep hg.size (h.b.trans ⟨hg.os,hg.tape,hg.output,hg.size,fun k hkB=>hk k (by have:=h.h1;have:=h.h2;omega)⟩) hk
end
structure CRow (W:World) (g:Nat) (cs:List (Lb.Cited × Value)):Prop where
 cell:∀(j:Nat) p,cs[j]? = some p→W.cell? ⟨g,j*5,none⟩=some (.string ⟨p.1.ent.kind.toArray⟩)∧W.cell? ⟨g,j*5+1,none⟩=some (.string ⟨p.1.ent.key.toArray⟩)∧W.cell? ⟨g,j*5+2,none⟩=some p.2∧W.cell? ⟨g,j*5+3,none⟩=some (.string ⟨p.1.label.toArray⟩)∧W.cell? ⟨g,j*5+4,none⟩=some (.string ⟨p.1.text.toArray⟩)
 free:∀i,W.frozen? ⟨g,i,none⟩=false
 lt:g<W.heap.size
theorem CRow.of {W:World} {N g n cap:Nat} {t:TypeId} {cs:List (Lb.Cited × Value)} (h:W.ownsRow N t 5 (.slice (some ⟨g,0,none⟩) n cap) n (ccells cs)) (hn:cs.length=n):CRow W g cs:=by
 refine ⟨fun j p hp=>?_,fun i=>World.ownsRow.frozenAt h i,(World.ownsRow.lt h g rfl).2⟩
 have hj:j<cs.length:=(List.getElem?_eq_some_iff.1 hp).1
 have ha:=ccells_at cs j p hp
 exact ⟨(World.ownsRow.cellAt h _ (by omega)).trans (ha 0 _ rfl),(World.ownsRow.cellAt h _ (by omega)).trans (ha 1 _ rfl),(World.ownsRow.cellAt h _ (by omega)).trans (ha 2 _ rfl),(World.ownsRow.cellAt h _ (by omega)).trans (ha 3 _ rfl),(World.ownsRow.cellAt h _ (by omega)).trans (ha 4 _ rfl)⟩
theorem CRow.block {W W':World} {g:Nat} {cs:List (Lb.Cited × Value)} (h:CRow W g cs) (hb:W'.heap[g]? = W.heap[g]?) (hz:W.heap.size≤W'.heap.size):CRow W' g cs:=by
 have hc:∀i,W'.cell? ⟨g,i,none⟩=W.cell? ⟨g,i,none⟩:=fun i=>World.cell?_of_block (w:=W) (a:=⟨g,i,none⟩) hb
 exact ⟨fun j p hp=>by
  obtain ⟨a,b,c,d,e⟩:=h.cell j p hp
  exact ⟨(hc _).trans a,(hc _).trans b,(hc _).trans c,(hc _).trans d,(hc _).trans e⟩,fun i=>(World.frozen?_of_block (w:=W) (a:=⟨g,i,none⟩) hb).trans (h.free i),Nat.lt_of_lt_of_le h.lt hz⟩
theorem CRow.below {W W':World} {g:Nat} {cs:List (Lb.Cited × Value)} (h:CRow W g cs) (hb:Below W.heap.size W W'):CRow W' g cs:=h.block (hb.block g h.lt) hb.size
theorem CRow.label {W:World} {g:Nat} {cs:List (Lb.Cited × Value)} (h:CRow W g cs) {k:Nat} {c:Lb.Cited} {v:Value} (hx:cs[k]? = some (c,v)) (s:List UInt8):CRow (W.setCell ⟨g,k*5+3,none⟩ (.string ⟨s.toArray⟩)) g (cs.set k (⟨c.ent,s,c.text⟩,v)):=by
 have hk:k<cs.length:=(List.getElem?_eq_some_iff.1 hx).1
 obtain ⟨q0,q1,q2,q3,q4⟩:=h.cell k _ hx
 have ne:∀i:Nat,i≠k*5+3→(⟨g,k*5+3,none⟩:Addr)≠⟨g,i,none⟩:=fun i hiq e=>hiq (by simp only [Addr.mk.injEq,and_true,true_and] at e;exact e.symm)
 have oth:∀i,i≠k*5+3→(W.setCell ⟨g,k*5+3,none⟩ (.string ⟨s.toArray⟩)).cell? ⟨g,i,none⟩=W.cell? ⟨g,i,none⟩:=fun i h0=>World.cell?_setCell_other _ _ _ _ (ne i h0)
 refine ⟨fun j r hr=>?_,fun i=>by simpa using h.free i,by simpa using h.lt⟩
 by_cases hjk:j=k
 ·
  subst hjk
  rw [List.getElem?_set_self hk] at hr
  obtain rfl:=Option.some.inj hr
  exact ⟨(oth (j*5) (by omega)).trans q0,(oth (j*5+1) (by omega)).trans q1,(oth (j*5+2) (by omega)).trans q2,World.cell?_setCell_same _ _ _ q3,(oth (j*5+4) (by omega)).trans q4⟩
 ·
  rw [List.getElem?_set_ne (Ne.symm hjk)] at hr
  obtain ⟨r0,r1,r2,r3,r4⟩:=h.cell j r hr
  exact ⟨(oth (j*5) (by omega)).trans r0,(oth (j*5+1) (by omega)).trans r1,(oth (j*5+2) (by omega)).trans r2,(oth (j*5+3) (by omega)).trans r3,(oth (j*5+4) (by omega)).trans r4⟩
def RCit (S:Nat→Prop) (w:World) (c:Lb.Cited) (vs:List Value):Prop:=∃vf,vs=[.string ⟨c.ent.kind.toArray⟩,.string ⟨c.ent.key.toArray⟩,vf,.string ⟨c.label.toArray⟩,.string ⟨c.text.toArray⟩]∧SliceIn S 2 RFld w vf c.ent.fields
theorem RCit.size {S:Nat→Prop} {w:World} (c:Lb.Cited) (vs:List Value) (h:RCit S w c vs):vs.length=5:=by obtain ⟨vf,rfl,_⟩:=h;rfl
theorem cits_of_crow {W:World} {B g n cap:Nat} {cs:List (Lb.Cited × Value)} (h:CRow W g cs) (hn:cs.length=n) (hc:n≤cap) (hm:cap≤maxLen) (hg:B≤g) (hf:∀p ∈ cs,SliceIn (fun j=>B≤j) 2 RFld W p.2 p.1.ent.fields) :
  SliceIn (fun j=>B≤j) 5 (RCit (fun j=>B≤j) W) W (.slice (some ⟨g,0,none⟩) n cap) (cs.map (·.1)):=by
 refine ⟨some ⟨g,0,none⟩,cap,by rw [List.length_map,hn],by rw [List.length_map,hn];exact hc,hm,fun i x hx=>?_⟩
 rw [List.getElem?_map] at hx
 cases he:cs[i]? with
 | none=>rw [he] at hx;cases hx
 | some p =>
  rw [he] at hx
  obtain rfl:=Option.some.inj hx
  obtain ⟨q0,q1,q2,q3,q4⟩:=h.cell i p he
  refine ⟨g,0,_,rfl,hg,h.lt,⟨p.2,rfl,hf p (List.mem_of_getElem? he)⟩,fun j u hj=>?_⟩
  match j,hj with
  | 0,hj=>obtain rfl:=Option.some.inj hj;rw [Nat.zero_add];exact q0
  | 1,hj=>obtain rfl:=Option.some.inj hj;rw [Nat.zero_add];exact q1
  | 2,hj=>obtain rfl:=Option.some.inj hj;rw [Nat.zero_add];exact q2
  | 3,hj=>obtain rfl:=Option.some.inj hj;rw [Nat.zero_add];exact q3
  | 4,hj=>obtain rfl:=Option.some.inj hj;rw [Nat.zero_add];exact q4
  | j+5,hj=>simp at hj
def cit0 (x:Ent.Ent):Lb.Cited:=⟨x,Lb.letters x,Lb.textOf x⟩
def citK (style:Int) (o:List Ent.Ent) (k i:Nat) (x:Ent.Ent):Lb.Cited:=⟨x,if i<k then Lb.tag style (o.map Lb.letters) i (Lb.letters x) else Lb.letters x,Lb.textOf x⟩
theorem tag_num (style:Int) (ls:List (List UInt8)) (i:Nat) (s:List UInt8) (h:style≠1):Lb.tag style ls i s=Cnt.text ((i:Int)+1) 0:=by unfold Lb.tag;rw [if_pos h]
theorem tag_many (ls:List (List UInt8)) (i:Nat) (s:List UInt8) (h:1<ls.count s):Lb.tag 1 ls i s=s++Cnt.text ((ls.take (i+1)).count s:Nat) 3:=by unfold Lb.tag;rw [if_neg (by decide),if_pos h]
theorem tag_one (ls:List (List UInt8)) (i:Nat) (s:List UInt8) (h:¬1<ls.count s):Lb.tag 1 ls i s=s:=by unfold Lb.tag;rw [if_neg (by decide),if_neg h]
theorem citK_all (style:Int) (o:List Ent.Ent) (cs:List (Lb.Cited × Value)) (hn:cs.length=o.length) (h:∀i x,o[i]? = some x → ∃v,cs[i]? = some (citK style o o.length i x,v)):cs.map (·.1)=Lb.tagged style o:=by
 apply List.ext_getElem?
 intro i
 unfold Lb.tagged
 rw [List.getElem?_map,List.getElem?_mapIdx]
 cases hx:o[i]? with
 | none =>
  have:o.length≤i:=List.getElem?_eq_none_iff.1 hx
  rw [List.getElem?_eq_none (by omega)];rfl
 | some x =>
  obtain ⟨v,hv⟩:=h i x hx
  have hi:=(List.getElem?_eq_some_iff.1 hx).1
  rw [hv]
  simp only [Option.map_some]
  congr 1
  unfold citK;rw [if_pos hi]
end Go.Proofs.YtgnfmopcialllaaGreatDoor
