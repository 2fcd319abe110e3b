/- The walks of package entry's reader: one byte. The walks of package entry's reader: what ends an entry; a byte that has to be next; the end. The walks of package entry's reader: marks, texts in quotation marks and in braces. The walks of package entry's reader: texts in quotation marks. The walks of package entry's reader: texts in braces. Names that stand for texts: a map of the call's own. The whole reader of package entry in memory; its notes. The walks of package entry's reader: a note more. -/
import Derived.Test.YtgnfmopcialllaaGreatDoorTk
import Derived.Test.YtgnfmopcialllaaGreatDoorG01
import Derived.Deep.RegionHeld3
set_option linter.unusedSimpArgs false
set_option linter.unusedVariables false
namespace Go.Proofs.YtgnfmopcialllaaGreatDoor
open Go.RowKit
theorem At.drew {s:List UInt8} {r:Nat} {w:World} {l:List UInt8} (h:At s r w l):At s r w.drew l:=⟨h.text,h.place,h.free,h.lt⟩
theorem Moved.of_drew {r:Nat} {w w':World} (h:Moved r w.drew w'):Moved r w w':=⟨h.os,h.tape,h.output,h.size,h.block,h.cell,h.frozen⟩
set_option maxRecDepth 100000 in
set_option maxHeartbeats 1600000 in
theorem reader_is (s:List UInt8) (r:Nat) (l:List UInt8) (c:UInt8) (w:World) (hs:s.length≤maxLen) (h0:c.toNat≠0) (hA:At s r w l) :
  Calls Tryz.prog 126 #[.pointer (some ⟨r,0,none⟩),.int .u8 (c.toNat:Int)] w fun e w'=>e = .returned (.bool (Ent.isB c l))∧At s r w' (Ent.isL c l)∧Moved r w w':=by
 have HB:=η (fun w (hA:At s r w l)=>reader_blanks s r l w hs hA)
 have HA:=η hA;clear hA
 unfold maxLen at hs
 obtain ⟨n,hn⟩:∃n,c.toNat=n:=⟨_,rfl⟩
 rw [hn] at h0 ⊢
 obtain ⟨y,hy⟩:∃y,Ent.hd (Ent.bl l)=y:=⟨_,rfl⟩
 rw [hy] at HB
 by_cases hyn:y=(n:Int)
 ·
  obtain ⟨l2,hb⟩:∃l2,Ent.bl l=c::l2:=by
   cases hb:Ent.bl l with
   | nil=>rw [hb] at hy;simp [Ent.hd] at hy;omega
   | cons x l2 =>
    rw [hb] at hy;simp only [Ent.hd] at hy
    have:x.toNat=c.toNat:=by omega
    exact ⟨l2,by rw [UInt8.toNat_inj.1 this]⟩
  have hB:Ent.isB c l=true:=by unfold Ent.isB;rw [hb];simp
  have hL:Ent.isL c l=l2:=by unfold Ent.isL;rw [hb];simp
  rw [hB,hL]
  rw [hb,hyn] at HB
  have Hn:=η hn;have Hy:=η hy;clear hn hy hB hL hyn hb
  go_enter Tryz.func126, Tryz.ntmps126
  go_upto_region 1 with fail
  refine wp_region_any (by kernel_rfl) ?_
  change wpAny _ _ _ _ _ _ _ (World.drew _)
  refine wpAny_take (i:=0) (v:=.pointer (some ⟨r,0,none⟩)) rfl (by kernel_rfl) (by kernel_rfl) (by kernel_rfl) (fun _ _ _ h=>h) (Or.inl ⟨by kernel_rfl,fun W=>by kernel_rfl⟩) ?_
  try simp only [Act.put,π1,π2,π3,π4,π5,π6]
  refine wpAny_take (i:=2) (v:=.int .u8 (n:Int)) rfl (by kernel_rfl) (by kernel_rfl) (by kernel_rfl) (fun _ _ _ h=>h) (Or.inl ⟨by kernel_rfl,fun W=>by kernel_rfl⟩) ?_
  try simp only [Act.put,π1,π2,π3,π4,π5,π6]
  refine wpAny_ready (rs:=[1]) (by kernel_rfl) (by simp) ?_
  refine AllReady.cons rfl (fun K hK=>?_) AllReady.nil
  go_simp
  go_wp2_with (first | (go_at_call 171; refine (HB.out _ HA.out.drew).mono ?_;rintro e w2 ⟨rfl,hA2,hM2⟩))
  have e0:=hA2.text
  have f1:=hA2.free
  obtain ⟨k,hk,hd,e1⟩:=hA2.place
  have g1:(k:Int)<(s.length:Int):=by have:=(drop_cons hd).2.1;omega
  have g2:decide ((s.length:Int)≤(k:Int))=false:=by simp;omega
  have hkl:(k:Int)+1≤9223372036854775807:=by omega
  have hlt:k<s.length:=(drop_cons hd).2.1
  have HA2:=η hA2;have HM2:=η hM2;have Hd:=η hd;clear hA2 hM2 hd
  refine wpAny_of_held (S:=fun W=>W.cell? ⟨r,0,none⟩=some (.string ⟨s.toArray⟩)∧W.cell? ⟨r,1,none⟩=some (.int .i64 (k:Int))) _ _ _ _ ?_
  have hS:=And.intro e0 e1
  refine tk 3 (.bool false) rfl (hy:=fun W hW=>by go_simp) (h:=?_)
  refine tk 4 (.bool false) rfl (h:=?_)
  refine tk 5 (.pointer (some ⟨r,0,none⟩)) rfl (h:=?_)
  refine tk 6 (.pointer (some ⟨r,0,none⟩)) rfl (h:=?_)
  refine tk 7 (.pointer (some ⟨r,1,none⟩)) rfl (hy:=fun W hW=>by obtain ⟨hW0,hW1⟩:=hW;go_simp) (h:=?_)
  refine tk 8 (.int .i64 (k:Int)) rfl (hy:=fun W hW=>by obtain ⟨hW0,hW1⟩:=hW;go_simp) (h:=?_)
  refine tk 9 (.pointer (some ⟨r,0,none⟩)) rfl (h:=?_)
  refine tk 10 (.pointer (some ⟨r,0,none⟩)) rfl (h:=?_)
  refine tk 11 (.pointer (some ⟨r,0,none⟩)) rfl (hy:=fun W hW=>by obtain ⟨hW0,hW1⟩:=hW;go_simp) (h:=?_)
  refine tk 12 (.string ⟨s.toArray⟩) rfl (hy:=fun W hW=>by obtain ⟨hW0,hW1⟩:=hW;go_simp) (h:=?_)
  refine tk 13 (.int .i64 (s.length:Int)) rfl (hy:=fun W hW=>by obtain ⟨hW0,hW1⟩:=hW;go_simp) (h:=?_)
  refine tk 14 (.bool false) rfl (hy:=fun W hW=>by obtain ⟨hW0,hW1⟩:=hW;go_simp) (h:=?_)
  refine tk 15 (.bool false) rfl (h:=?_)
  try simp only [Act.put,π1,π2,π3,π4,π5,π6]
  refine wpAnyH_done (by kernel_rfl) ?_ _
  clear hS g2
  go_wp2_with fail
  go_ret
  refine ⟨rfl,?_,?_⟩
  ·
   have h:=HA2.out.set (k:=k+1) (by omega) ((k:Int)+1) (by omega)
   rw [(drop_cons Hd.out).2.2] at h
   exact h
  ·
   exact HM2.out.of_drew.set _
 ·
  have g1:(y != (n:Int))=true:=by simp [hyn]
  have hB:Ent.isB c l=false:=by
   unfold Ent.isB
   cases hb:Ent.bl l with
   | nil=>rfl
   | cons x l2=>rw [hb] at hy;simp [Ent.hd] at hy;simp;intro e;rw [e] at hy;exact hyn (by omega)
  have hL:Ent.isL c l=Ent.bl l:=by
   unfold Ent.isL
   unfold Ent.isB at hB
   cases hb:Ent.bl l with
   | nil=>rfl
   | cons x l2=>rw [hb] at hB;dsimp only at hB ⊢;rw [hB];rfl
  rw [hB,hL]
  have Hn:=η hn;have Hy:=η hy;clear hn hy hB hL hyn
  go_enter Tryz.func126, Tryz.ntmps126
  go_upto_region 1 with fail
  refine wp_region_any (by kernel_rfl) ?_
  change wpAny _ _ _ _ _ _ _ (World.drew _)
  refine wpAny_take (i:=0) (v:=.pointer (some ⟨r,0,none⟩)) rfl (by kernel_rfl) (by kernel_rfl) (by kernel_rfl) (fun _ _ _ h=>h) (Or.inl ⟨by rfl,fun w=>by rfl⟩) ?_
  refine wpAny_take (i:=2) (v:=.int .u8 (n:Int)) rfl (by kernel_rfl) (by kernel_rfl) (by kernel_rfl) (fun _ _ _ h=>h) (Or.inl ⟨by rfl,fun w=>by rfl⟩) ?_
  refine wpAny_ready (rs:=[1]) (by kernel_rfl) (by simp) ?_
  refine AllReady.cons rfl (fun K hK=>?_) AllReady.nil
  go_simp
  go_wp2_with (first | (go_at_call 171; refine (HB.out _ HA.out.drew).mono ?_;rintro e w2 ⟨rfl,hA2,hM2⟩))
  try simp only [Act.put,π1,π2,π3,π4,π5,π6]
  refine wpAny_take (i:=3) (v:=.bool true) rfl (by kernel_rfl) (by kernel_rfl) (by kernel_rfl) (fun _ _ _ h=>h) (Or.inl ⟨by kernel_rfl,fun w=>by go_simp⟩) ?_
  try simp only [Act.put,π1,π2,π3,π4,π5,π6]
  refine wpAny_take (i:=4) (v:=.bool true) rfl (by kernel_rfl) (by kernel_rfl) (by kernel_rfl) (fun _ _ _ h=>h) (Or.inl ⟨by kernel_rfl,fun w=>by kernel_rfl⟩) ?_
  try simp only [Act.put,π1,π2,π3,π4,π5,π6]
  refine wpAny_take (i:=5) (v:=undef) rfl (by kernel_rfl) (by kernel_rfl) (by kernel_rfl) (fun _ _ _ h=>h) (Or.inr ⟨by kernel_rfl,rfl⟩) ?_
  try simp only [Act.put,π1,π2,π3,π4,π5,π6]
  refine wpAny_take (i:=6) (v:=undef) rfl (by kernel_rfl) (by kernel_rfl) (by kernel_rfl) (fun _ _ _ h=>h) (Or.inr ⟨by kernel_rfl,rfl⟩) ?_
  try simp only [Act.put,π1,π2,π3,π4,π5,π6]
  refine wpAny_take (i:=7) (v:=undef) rfl (by kernel_rfl) (by kernel_rfl) (by kernel_rfl) (fun _ _ _ h=>h) (Or.inr ⟨by kernel_rfl,rfl⟩) ?_
  try simp only [Act.put,π1,π2,π3,π4,π5,π6]
  refine wpAny_take (i:=8) (v:=undef) rfl (by kernel_rfl) (by kernel_rfl) (by kernel_rfl) (fun _ _ _ h=>h) (Or.inr ⟨by kernel_rfl,rfl⟩) ?_
  try simp only [Act.put,π1,π2,π3,π4,π5,π6]
  refine wpAny_take (i:=9) (v:=undef) rfl (by kernel_rfl) (by kernel_rfl) (by kernel_rfl) (fun _ _ _ h=>h) (Or.inr ⟨by kernel_rfl,rfl⟩) ?_
  try simp only [Act.put,π1,π2,π3,π4,π5,π6]
  refine wpAny_take (i:=10) (v:=undef) rfl (by kernel_rfl) (by kernel_rfl) (by kernel_rfl) (fun _ _ _ h=>h) (Or.inr ⟨by kernel_rfl,rfl⟩) ?_
  try simp only [Act.put,π1,π2,π3,π4,π5,π6]
  refine wpAny_take (i:=11) (v:=undef) rfl (by kernel_rfl) (by kernel_rfl) (by kernel_rfl) (fun _ _ _ h=>h) (Or.inr ⟨by kernel_rfl,rfl⟩) ?_
  try simp only [Act.put,π1,π2,π3,π4,π5,π6]
  refine wpAny_take (i:=12) (v:=undef) rfl (by kernel_rfl) (by kernel_rfl) (by kernel_rfl) (fun _ _ _ h=>h) (Or.inr ⟨by kernel_rfl,rfl⟩) ?_
  try simp only [Act.put,π1,π2,π3,π4,π5,π6]
  refine wpAny_take (i:=13) (v:=undef) rfl (by kernel_rfl) (by kernel_rfl) (by kernel_rfl) (fun _ _ _ h=>h) (Or.inr ⟨by kernel_rfl,rfl⟩) ?_
  try simp only [Act.put,π1,π2,π3,π4,π5,π6]
  refine wpAny_take (i:=14) (v:=undef) rfl (by kernel_rfl) (by kernel_rfl) (by kernel_rfl) (fun _ _ _ h=>h) (Or.inr ⟨by kernel_rfl,rfl⟩) ?_
  try simp only [Act.put,π1,π2,π3,π4,π5,π6]
  refine wpAny_take (i:=15) (v:=.bool true) rfl (by kernel_rfl) (by kernel_rfl) (by kernel_rfl) (fun _ _ _ h=>h) (Or.inl ⟨by kernel_rfl,fun w=>by kernel_rfl⟩) ?_
  try simp only [Act.put,π1,π2,π3,π4,π5,π6]
  refine wpAny_done (by kernel_rfl) ?_ _
  go_wp2_with fail
  go_ret
  exact ⟨rfl,hA2,hM2.of_drew⟩
end Go.Proofs.YtgnfmopcialllaaGreatDoor
set_option linter.unusedSimpArgs false
set_option linter.unusedVariables false
namespace Go.Proofs.YtgnfmopcialllaaGreatDoor
open Go.RowKit
abbrev wrongP (l:List UInt8):Ending:=.panicked [{ v:=.iface 213 (.agg #[.int .i64 (Ent.err l)]),recovered:=false }]
set_option maxRecDepth 100000 in
set_option maxHeartbeats 400000 in
theorem reader_fail (s:List UInt8) (r:Nat) (l:List UInt8) (w:World) (hA:At s r w l) :
  Calls Tryz.prog 173 #[.pointer (some ⟨r,0,none⟩)] w fun e w'=>e=wrongP l∧At s r w' l∧Moved r w w':=by
 have e0:=hA.text
 obtain ⟨k,hk,hd,e1⟩:=hA.place
 have HA:=η hA;have Hd:=η hd;clear hA
 cases hl:l with
 | nil =>
  have g1:(s.length:Int)≤(k:Int):=by
   have h:=congrArg List.length hd;rw [hl] at h;simp at h;omega
  clear hd
  have Hl:=η hl;clear hl
  go_enter Tryz.func173, Tryz.ntmps173
  go_wp2_with fail
  go_quiet (fail)
  go_wp2_with fail
  exact ⟨rfl,rfl,by rw [←Hl.out];exact HA.out.drewN _,(Moved.refl r w).drewN _⟩
 | cons x l2 =>
  have g1:k<s.length:=(drop_cons (hd.trans hl)).2.1
  clear hd
  have Hl:=η hl;clear hl
  go_enter Tryz.func173, Tryz.ntmps173
  go_wp2_with fail
  go_quiet (fail)
  go_wp2_with fail
  exact ⟨rfl,rfl,by rw [←Hl.out];exact HA.out.drewN _,(Moved.refl r w).drewN _⟩
set_option maxRecDepth 100000 in
set_option maxHeartbeats 400000 in
theorem reader_must (s:List UInt8) (r:Nat) (l:List UInt8) (c:UInt8) (w:World) (hs:s.length≤maxLen) (h0:c.toNat≠0) (hA:At s r w l) :
  Calls Tryz.prog 124 #[.pointer (some ⟨r,0,none⟩),.int .u8 (c.toNat:Int)] w fun e w'=>e=(if Ent.isB c l then .returned (.tuple #[]) else wrongP (Ent.isL c l))∧At s r w' (Ent.isL c l)∧Moved r w w':=by
 have HI:=η (reader_is s r l c w hs h0 hA)
 clear hA
 cases hb:Ent.isB c l
 ·
  rw [hb] at HI
  go_enter Tryz.func124, Tryz.ntmps124
  go_wp2_with (first
   | (go_at_call 126; refine HI.out.mono ?_;rintro e w2 ⟨rfl,hA2,hM2⟩)
   | (go_at_call 173; refine (reader_fail _ _ _ _ hA2).mono ?_;rintro e w3 ⟨rfl,hA3,hM3⟩))
  exact ⟨rfl,rfl,hA3,hM2.trans hM3⟩
 ·
  rw [hb] at HI
  go_enter Tryz.func124, Tryz.ntmps124
  go_wp2_with (first
   | (go_at_call 126; refine HI.out.mono ?_;rintro e w2 ⟨rfl,hA2,hM2⟩))
  refine bodyPost_end (results_none rfl _ _ _) rfl ?_
  exact ⟨rfl,hA2,hM2⟩
set_option maxRecDepth 100000 in
set_option maxHeartbeats 400000 in
theorem reader_end (s:List UInt8) (r:Nat) (l:List UInt8) (w:World) (hA:At s r w l) :
  Calls Tryz.prog 234 #[.pointer (some ⟨r,0,none⟩)] w fun e w'=>e=wrongP []∧At s r w' []∧Moved r w w':=by
 have e0:=hA.text
 have f1:=hA.free
 obtain ⟨k,hk,hd,e1⟩:=hA.place
 have HA:=η hA;have Hd:=η hd;clear hA
 have h2:=HA.out.set (k:=s.length) (Nat.le_refl _) (s.length:Int) rfl
 have H2:=η h2;clear h2
 rw [List.drop_length] at H2
 go_enter Tryz.func234, Tryz.ntmps234
 go_wp2_with (go_at_call 173; refine (reader_fail _ _ _ _ H2.out).mono ?_;rintro e w3 ⟨rfl,hA3,hM3⟩)
 exact ⟨rfl,rfl,hA3,((Moved.refl r w).set _).trans hM3⟩
end Go.Proofs.YtgnfmopcialllaaGreatDoor
set_option linter.unusedSimpArgs false
set_option linter.unusedVariables false
namespace Go.Proofs.YtgnfmopcialllaaGreatDoor
open Go.RowKit
abbrev said (o:Option (List UInt8) × List UInt8) (e:Ending):Prop:=e=match o.1 with | some m=>.returned (.string ⟨m.toArray⟩) | none=>wrongP o.2
theorem quiet_sign (c:UInt8) (w:World) (n:Nat) (b:Bool) (hb:Ent.sign c=b) :
  Calls Tryz.prog 172 #[.int .u8 (c.toNat:Int)] (w.drewN n) fun e w'=>e = .returned (.bool b)∧∃m,w'=w.drewN m :=
 (entry_sign c _).mono (fun _ _ ⟨h1,h2⟩=>⟨by rw [h1,hb],n,h2.symm⟩)
theorem mark_split (l1 m l2:List UInt8) (h:l1=m++l2) (hm:m.all Ent.sign=true) (hl:l2=[] ∨ ∃x l3,l2=x::l3∧Ent.sign x=false):l1.takeWhile Ent.sign=m∧l1.dropWhile Ent.sign=l2:=by
 have h1:l2.takeWhile Ent.sign=[]∧l2.dropWhile Ent.sign=l2:=by
  rcases hl with rfl | ⟨x,l3,rfl,hx⟩
  ·
   exact ⟨rfl,rfl⟩
  ·
   simp [hx]
 have hm':∀a ∈ m,Ent.sign a=true:=List.all_eq_true.1 hm
 rw [h,List.takeWhile_append_of_pos hm',List.dropWhile_append_of_pos hm',h1.1,h1.2]
 simp
theorem place_split (s m l2:List UInt8) (k0 k:Nat) (hk:k≤s.length) (h0:s.drop k0=m++l2) (h1:s.drop k=l2) (hk0:k0≤s.length):k=k0+m.length∧(⟨s.toArray⟩:ByteArray).extract k0 k=⟨m.toArray⟩:=by
 have h2:k=k0+m.length:=by
  have a:=congrArg List.length h0
  have b:=congrArg List.length h1
  simp at a b
  omega
 refine ⟨h2,?_⟩
 rw [extract_any,h0,h2,Nat.add_sub_cancel_left,List.take_left]
set_option maxRecDepth 100000 in
set_option maxHeartbeats 800000 in
theorem reader_mark (s:List UInt8) (r:Nat) (l:List UInt8) (w:World) (hs:s.length≤maxLen) (hA:At s r w l) :
  Calls Tryz.prog 123 #[.pointer (some ⟨r,0,none⟩)] w fun e w'=>said (Ent.mark l) e∧At s r w' (Ent.mark l).2∧Moved r w w':=by
 have HB:=η (reader_blanks s r l w hs hA)
 clear hA
 unfold maxLen at hs
 obtain ⟨l1,hl1⟩:∃l1,Ent.bl l=l1:=⟨_,rfl⟩
 obtain ⟨o,ho⟩:∃o,Ent.mark l=o:=⟨_,rfl⟩
 rw [ho]
 unfold Ent.mark at ho
 rw [hl1] at HB ho
 have Ho:=η ho
 clear hl1 ho
 go_enter Tryz.func123, Tryz.ntmps123
 go_upto_region 2 with (go_at_call 171; refine HB.out.mono ?_;rintro e w2 ⟨rfl,hA2,hM2⟩)
 have e0:=hA2.text
 obtain ⟨k0,hk0,hd0,e1⟩:=hA2.place
 have HA:=η hA2;have HM:=η hM2;have Hd0:=η hd0;clear hA2 hM2 hd0 HB
 go_wp2_with fail
 go_loopw [] (fun wr=>∃l2,((∃m,l1=m++l2∧m.all Ent.sign=true))∧At s r wr l2∧Moved r w wr) (fun wr=>s.length - placeOf r wr)
 case atStart=>exact ⟨l1,⟨[],rfl,rfl⟩,HA.out,HM.out⟩
 case round =>
  clear HA HM e0 e1
  obtain ⟨l2,hm,hA,hM⟩:=hrel
  obtain ⟨k,hk,hd,e1⟩:=hA.place
  have e0:=hA.text
  have f1:=hA.free
  have HA:=η hA;have HM:=η hM;have Hm:=η hm;clear hA hM hm
  cases hl2:l2 with
  | nil =>
   have hkn:k=s.length:=by
    have h:=congrArg List.length hd
    rw [List.length_drop,hl2] at h
    simp at h;omega
   have g1:decide ((k:Int)<(s.length:Int))=false:=by simp;omega
   have Hd:=η hd;have Hl2:=η hl2;clear hd hl2
   go_wp2_with fail
   go_quiet (fail)
   have HA2:=η (HA.out.drewN nq);have HM2:=η (HM.out.drewN nq)
   clear HA HM hkn
   obtain ⟨m,hm1,hm2⟩:=Hm.out
   have h3:=mark_split l1 m l2 hm1 hm2 (.inl Hl2.out)
   have h4:=place_split s m l2 k0 k hk (Hd0.out.trans hm1) Hd.out hk0
   have h5:=h4.1
   have h6:=h4.2
   have hO:o=(if m.isEmpty then none else some m,l2):=by rw [←Ho.out,h3.1,h3.2]
   have HO:=η hO
   clear h3 h4 hm1 hm2 hO
   cases hmm:m with
   | nil =>
    rw [hmm] at HO
    have h7:k0=k:=by rw [h5,hmm];simp
    clear h5 h6 hmm
    subst h7
    go_wp2_with (go_at_call 173; refine (reader_fail _ _ _ _ HA2.out).mono ?_;rintro e w3 ⟨rfl,hA3,hM3⟩)
    refine ⟨rfl,?_⟩
    rw [HO.out]
    exact ⟨rfl,hA3,HM2.out.trans hM3⟩
   | cons y m2 =>
    have g2:((k:Int) == (k0:Int))=false:=by rw [h5,hmm];simp;omega
    have g3:(k0:Int)≤(k:Int):=by omega
    have g4:(k:Int)≤(s.length:Int):=by omega
    rw [hmm] at h6 HO
    clear h5 hmm
    go_wp2_with fail
    go_quiet (fail)
    go_wp2_with fail
    go_ret
    rw [HO.out]
    exact ⟨rfl,HA2.out.drewN _,HM2.out.drewN _⟩
  | cons x l3 =>
   obtain ⟨hx,hlt,hd2⟩:=drop_cons (hd.trans hl2)
   have g1:(k:Int)<(s.length:Int):=by omega
   have hb:=byte_at s k x hx
   have hkl:(k:Int)+1≤9223372036854775807:=by omega
   have Hd:=η hd;have Hx:=η hx;have Hl2:=η hl2;have Hd2:=η hd2;clear hd hx hd2 hl2
   cases hsx:Ent.sign x
   ·
    have Hsx:=η hsx;clear hsx
    go_wp2_with fail
    go_quiet (first | (go_at_call 172; exact quiet_sign _ _ _ _ Hsx.out))
    have HA2:=η (HA.out.drewN nq);have HM2:=η (HM.out.drewN nq)
    clear HA HM
    obtain ⟨m,hm1,hm2⟩:=Hm.out
    have h3:=mark_split l1 m l2 hm1 hm2 (.inr ⟨x,l3,Hl2.out,Hsx.out⟩)
    have h4:=place_split s m l2 k0 k hk (Hd0.out.trans hm1) Hd.out hk0
    have h5:=h4.1
    have h6:=h4.2
    have hO:o=(if m.isEmpty then none else some m,l2):=by rw [←Ho.out,h3.1,h3.2]
    have HO:=η hO
    clear h3 h4 hm1 hm2 hO
    cases hmm:m with
    | nil =>
     rw [hmm] at HO
     have h7:k0=k:=by rw [h5,hmm];simp
     clear h5 h6 hmm
     subst h7
     go_wp2_with (go_at_call 173; refine (reader_fail _ _ _ _ HA2.out).mono ?_;rintro e w3 ⟨rfl,hA3,hM3⟩)
     refine ⟨rfl,?_⟩
     rw [HO.out]
     exact ⟨rfl,hA3,HM2.out.trans hM3⟩
    | cons y m2 =>
     have g2:((k:Int) == (k0:Int))=false:=by rw [h5,hmm];simp;omega
     have g3:(k0:Int)≤(k:Int):=by omega
     have g4:(k:Int)≤(s.length:Int):=by omega
     rw [hmm] at h6 HO
     clear h5 hmm
     go_wp2_with fail
     go_quiet (fail)
     go_wp2_with fail
     go_ret
     rw [HO.out]
     exact ⟨rfl,HA2.out.drewN _,HM2.out.drewN _⟩
   ·
    have Hsx:=η hsx;clear hsx
    go_wp2_with fail
    go_quiet (first | (go_at_call 172; exact quiet_sign _ _ _ _ Hsx.out))
    go_wp2_with fail
    have h2:=(HA.out.drewN nq).set (k:=k+1) (by omega) ((k:Int)+1) (by omega)
    rw [Hd2.out] at h2
    refine ⟨⟨l3,?_,h2,(HM.out.drewN nq).set _⟩,?_⟩
    ·
     obtain ⟨m,h3,h4⟩:=Hm.out
     exact ⟨m++[x],by rw [h3,Hl2.out];simp,by rw [List.all_append,h4];simp [Hsx.out]⟩
    have p1:placeOf r wr=k:=by unfold placeOf;rw [e1];simp
    have p2:placeOf r ((wr.drewN nq).setCell ⟨r,1,none⟩ (.int .i64 ((k:Int)+1)))=k+1:=by
     unfold placeOf
     rw [World.cell?_setCell_same (wr.drewN nq) _ _ e1]
     simp
    rw [p1,p2];omega
end Go.Proofs.YtgnfmopcialllaaGreatDoor
set_option linter.unusedSimpArgs false
set_option linter.unusedVariables false
namespace Go.Proofs.YtgnfmopcialllaaGreatDoor
open Go.RowKit
theorem index_split (c:UInt8):∀l:List UInt8,(l.dropWhile (fun x=>!(x == c))=[]∧Lib.indexByte l c = -1) ∨
  (∃r,l.dropWhile (fun x=>!(x == c))=c::r∧Lib.indexByte l c=((l.takeWhile (fun x=>!(x == c))).length:Int)∧l=l.takeWhile (fun x=>!(x == c))++c::r)
 | []=>.inl ⟨rfl,rfl⟩
 | x::l=>by
  cases hx:(x == c)
  ·
   rcases index_split c l with ⟨h1,h2⟩ | ⟨r,h1,h2,h3⟩
   ·
    exact .inl ⟨by rw [List.dropWhile_cons,hx];exact h1,by unfold Lib.indexByte;rw [hx,h2];rfl⟩
   ·
    refine .inr ⟨r,by rw [List.dropWhile_cons,hx];exact h1,?_,?_⟩
    ·
     unfold Lib.indexByte
     rw [hx,h2,List.takeWhile_cons,hx]
     have:(((l.takeWhile (fun x=>!(x == c))).length:Int) == -1)=false:=by simp
     rw [this]
     simp
    ·
     rw [List.takeWhile_cons,hx]
     simpa using h3
  ·
   have:=eq_of_beq hx
   subst this
   exact .inr ⟨l,by simp,by simp [Lib.indexByte],by simp⟩
theorem quiet_find (l:List UInt8) (c:Int) (b:UInt8) (hc:c.toNat.toUInt8=b) (w:World) (n:Nat) (v:Int) (hv:Lib.indexByte l b=v) :
  Calls Tryz.prog 58 #[.string ⟨l.toArray⟩,.int .u8 c] (w.drewN n) fun e w'=>e = .returned (.int .i64 v)∧∃m,w'=w.drewN m:=by
 refine (Tryz.strings_IndexByte _ _ _).mono (fun e w' ⟨h1,h2⟩=>⟨?_,n,h2⟩)
 rw [h1,hc,hv]
set_option maxRecDepth 100000 in
set_option maxHeartbeats 800000 in
theorem reader_quoted (s:List UInt8) (r:Nat) (l:List UInt8) (w:World) (hs:s.length≤maxLen) (hA:At s r w l) :
  Calls Tryz.prog 213 #[.pointer (some ⟨r,0,none⟩)] w fun e w'=>said (Ent.quoted l) e∧At s r w' (Ent.quoted l).2∧Moved r w w':=by
 unfold maxLen at hs
 obtain ⟨o,ho⟩:∃o,Ent.quoted l=o:=⟨_,rfl⟩
 rw [ho]
 unfold Ent.quoted at ho
 have e0:=hA.text
 have f1:=hA.free
 obtain ⟨k,hk,hd,e1⟩:=hA.place
 have hx1:=extract_end s k
 rw [hd] at hx1
 have HA:=η hA;clear hA
 have g3:(k:Int)≤(s.length:Int):=by omega
 rcases index_split 34 l with ⟨h1,h2⟩ | ⟨r2,h1,h2,h3⟩
 ·
  rw [h1] at ho
  have Ho:=η ho.symm;have H2:=η h2;clear ho h1 h2 hd
  go_enter Tryz.func213, Tryz.ntmps213
  go_wp2_with fail
  go_quiet (first | (go_at_call 58; exact quiet_find _ _ 34 rfl _ _ _ H2.out))
  go_wp2_with (go_at_call 234; refine (reader_end _ _ _ _ (HA.out.drewN nq)).mono ?_;rintro e w3 ⟨rfl,hA3,hM3⟩)
  refine ⟨rfl,?_⟩
  rw [Ho.out]
  exact ⟨rfl,hA3,((Moved.refl r w).drewN nq).trans hM3⟩
 ·
  rw [h1] at ho
  dsimp only at ho
  obtain ⟨t,ht⟩:∃t,l.takeWhile (fun x=>!(x == 34))=t:=⟨_,rfl⟩
  rw [ht] at h2 h3 ho
  have hlen:k+(t.length+1)≤s.length:=by
   have h:=congrArg List.length hd
   rw [h3] at h
   simp at h;omega
  have hx2:(⟨s.toArray⟩:ByteArray).extract k (k+t.length)=⟨t.toArray⟩:=by
   rw [extract_any,hd,h3,Nat.add_sub_cancel_left,List.take_left]
  have hx3:s.drop (k+(t.length+1))=r2:=by
   rw [←List.drop_drop,hd,h3,←List.drop_drop,List.drop_left];rfl
  have g4:IntKind.i64.wrap ((k:Int)+(t.length:Int))=(k:Int)+(t.length:Int):=IntWalk.i64_in _ (by omega)
  have g5:IntKind.i64.wrap ((t.length:Int)+1)=(t.length:Int)+1:=IntWalk.i64_in _ (by omega)
  have g6:IntKind.i64.wrap ((k:Int)+((t.length:Int)+1))=(k:Int)+((t.length:Int)+1):=IntWalk.i64_in _ (by omega)
  have g7:(k:Int)+(t.length:Int)≤(s.length:Int):=by omega
  have Ho:=η ho.symm;have H2:=η h2;have Hx3:=η hx3;clear ho h1 h2 hd ht h3 hx3
  go_enter Tryz.func213, Tryz.ntmps213
  go_wp2_with fail
  go_quiet (first | (go_at_call 58; exact quiet_find _ _ 34 rfl _ _ _ H2.out))
  go_wp2_with fail
  go_quiet (fail)
  go_wp2_with fail
  go_ret
  rw [Ho.out]
  refine ⟨congrArg (fun z=>Ending.returned (.string z)) hx2,?_,((Moved.refl r w).drewN _).set _⟩
  rw [←Hx3.out]
  exact (HA.out.drewN _).set hlen _ (by omega)
end Go.Proofs.YtgnfmopcialllaaGreatDoor
set_option linter.unusedSimpArgs false
set_option linter.unusedVariables false
namespace Go.Proofs.YtgnfmopcialllaaGreatDoor
open Go.RowKit
theorem brace_step (d:Nat) (acc:List UInt8) (x:UInt8) (r:List UInt8) (d2:Nat) (h:(if x == 123 then d+1 else if x == 125 then d - 1 else d)=d2) :
  Ent.brace d acc (x::r)=if d2 == 0 then (some acc,r) else Ent.brace d2 (acc++[x]) r:=by
 rw [Ent.brace,h]
set_option maxRecDepth 100000 in
set_option maxHeartbeats 1600000 in
theorem reader_braced (s:List UInt8) (r:Nat) (l:List UInt8) (w:World) (hs:s.length≤1000000000) (hA:At s r w l) :
  Calls Tryz.prog 214 #[.pointer (some ⟨r,0,none⟩)] w fun e w'=>said (Ent.braced l) e∧At s r w' (Ent.braced l).2∧Moved r w w':=by
 obtain ⟨o,ho⟩:∃o,Ent.braced l=o:=⟨_,rfl⟩
 rw [ho]
 unfold Ent.braced at ho
 have e0:=hA.text
 have f1:=hA.free
 obtain ⟨k0,hk0,hd0,e1⟩:=hA.place
 have HA:=η hA;have Ho:=η ho.symm;have Hd0:=η hd0;clear hA ho hd0
 go_enter Tryz.func214, Tryz.ntmps214
 go_wp2_with fail
 go_loop [3,4] (fun dv iv=>∃(d:Nat) (acc l2:List UInt8),l=acc++l2∧d≤acc.length+1∧d≠0∧o=Ent.brace d acc l2∧dv = .int .i64 (d:Int)∧iv = .int .i64 ((k0+acc.length:Nat):Int)) (fun _ iv=>s.length - (intOf iv).toNat)
 case atStart=>exact ⟨1,[],l,rfl,by simp,by simp,Ho.out,rfl,by simp⟩
 case round =>
  clear Ho
  obtain ⟨d,acc,l2,hl,hda,hd1,ho,rfl,rfl⟩:=hrel
  have hsl:s.length=k0+acc.length+l2.length:=by
   have h:=congrArg List.length Hd0.out
   rw [hl] at h
   simp at h;omega
  obtain ⟨k,hk⟩:∃k,k=k0+acc.length:=⟨_,rfl⟩
  rw [←hk] at hsl ⊢
  have hdr:s.drop k=l2:=by rw [hk,←List.drop_drop,Hd0.out,hl,List.drop_left]
  have hacc:(⟨s.toArray⟩:ByteArray).extract k0 k=⟨acc.toArray⟩:=by rw [extract_any,Hd0.out,hl,hk,Nat.add_sub_cancel_left,List.take_left]
  have hda':d≤1000000001:=by omega
  have hk9:k0≤k:=by omega
  have Hl:=η hl;have Hda:=η hda;have HO:=η ho;have Hk:=η hk
  clear hl hda ho hk
  cases hl2:l2 with
  | nil =>
   have g1:(k:Int)=(s.length:Int):=by rw [hsl,hl2];simp
   have h9:o=(none,[]):=by rw [HO.out,hl2];rfl
   have H9:=η h9;clear h9 hl2 hsl hdr hda' hacc hk9
   go_wp2_with (go_at_call 234; refine (reader_end _ _ _ _ HA.out).mono ?_;rintro e w3 ⟨rfl,hA3,hM3⟩)
   refine ⟨rfl,?_⟩
   rw [H9.out]
   exact ⟨rfl,hA3,hM3⟩
  | cons x l3 =>
   obtain ⟨hx,hlt,hd2⟩:=drop_cons (hdr.trans hl2)
   have hb:=byte_at s k x hx
   have g1:(k:Int)<(s.length:Int):=by omega
   have g3:(k0:Int)≤(k:Int):=by omega
   have hkl:(k:Int)+1≤9223372036854775807:=by omega
   have hO2:=fun d2 h=>brace_step d acc x l3 d2 h
   rw [hl2] at HO
   have HO2:=η hO2;have Hd2:=η hd2;have Hl2:=η hl2;have Hacc:=η hacc;have Hsl:=η hsl
   clear hO2 hd2 hl2 hdr hx hacc hsl
   cases h1:(x == 123)
   ·
    cases h2:(x == 125)
    ·
     have q1:((x.toNat:Int) == 123)=false:=by
      have:x.toNat≠123:=fun e=>by rw [show x=123 from UInt8.toNat_inj.1 e] at h1;simp at h1
      simp;omega
     have q2:((x.toNat:Int) == 125)=false:=by
      have:x.toNat≠125:=fun e=>by rw [show x=125 from UInt8.toNat_inj.1 e] at h2;simp at h2
      simp;omega
     have q3:((d:Int) == 0)=false:=by simp;omega
     have H1:=η h1;have H2:=η h2;clear h1 h2
     go_wp2_with fail
     go_round
     case rel =>
      have h:=HO2.out d (by rw [H1.out,H2.out];rfl)
      rw [if_neg (by simpa using hd1)] at h
      exact ⟨d,acc++[x],l3,by rw [Hl.out,Hl2.out];simp,by have:=Hda.out;simp;omega,hd1,HO.out.trans h,by go_num,by simp;rw [Hk.out];omega⟩
     case measure=>simp [intOf];omega
    ·
     have hx5:x.toNat=125:=by rw [eq_of_beq h2];rfl
     have q1:((x.toNat:Int) == 123)=false:=by rw [hx5];rfl
     have q2:((x.toNat:Int) == 125)=true:=by rw [hx5];rfl
     have H1:=η h1;have H2:=η h2;have Hx5:=η hx5;clear h1 h2 hx5
     obtain ⟨d2,hd3⟩:∃d2,d=d2+1:=⟨d - 1,by omega⟩
     have hw:IntKind.i64.wrap ((d:Int) - 1)=(d2:Int):=by rw [hd3];rw [IntWalk.i64_in _ (by omega)];omega
     have hw2:(d:Int) - 1=(d2:Int):=by omega
     have Hd3:=η hd3;clear hd3
     have h:=HO2.out d2 (by rw [H1.out,H2.out,Hd3.out];rfl)
     by_cases hz:d2=0
     ·
      have q3:((d2:Int) == 0)=true:=by rw [hz];rfl
      rw [if_pos (by rw [hz];rfl)] at h
      have h9:=η (HO.out.trans h);clear h
      have Hz:=η hz;clear hz
      go_wp2_with fail
      go_quiet (fail)
      go_wp2_with fail
      go_ret
      rw [h9.out]
      refine ⟨congrArg (fun z=>Ending.returned (.string z)) Hacc.out,?_,((Moved.refl r w).drewN _).set _⟩
      rw [←Hd2.out]
      exact (HA.out.drewN _).set (by omega) _ (by omega)
     ·
      have q3:((d2:Int) == 0)=false:=by simp;omega
      rw [if_neg (by simpa using hz)] at h
      have h9:=η (HO.out.trans h);clear h
      go_wp2_with fail
      go_round
      case rel=>exact ⟨d2,acc++[x],l3,by rw [Hl.out,Hl2.out];simp,by have:=Hda.out;have:=Hd3.out;simp;omega,hz,h9.out,by go_num,by simp;rw [Hk.out];omega⟩
      case measure=>simp [intOf];omega
   ·
    have hx5:x.toNat=123:=by rw [eq_of_beq h1];rfl
    have q1:((x.toNat:Int) == 123)=true:=by rw [hx5];rfl
    have H1:=η h1;have Hx5:=η hx5;clear h1 hx5
    have q3:(((d:Int)+1) == 0)=false:=by simp;omega
    go_wp2_with fail
    go_round
    case rel =>
     have h:=HO2.out (d+1) (by rw [H1.out];rfl)
     rw [if_neg (by simp)] at h
     exact ⟨d+1,acc++[x],l3,by rw [Hl.out,Hl2.out];simp,by have:=Hda.out;simp;omega,by omega,HO.out.trans h,by go_num,by simp;rw [Hk.out];omega⟩
    case measure=>simp [intOf];omega
end Go.Proofs.YtgnfmopcialllaaGreatDoor
set_option linter.unusedSimpArgs false
set_option linter.unusedVariables false
namespace Go.Proofs.YtgnfmopcialllaaGreatDoor
open Go.RowKit
open Go.Maps (Keyed)
open Go.MapKept Go.WideElems
def standR (v:Value):Option (DataW Unit × List MemPlace) :=
 match v with
 | .agg a=>match a.toList with
  | [.string s]=>some (.lit (.string s.data.toList),[])
  | _=>none
 | _=>none
theorem standR_mk (t:List UInt8):standR (.agg #[.string ⟨t.toArray⟩])=some (.lit (.string t),[]):=rfl
theorem standR_inv {v:Value} {t:List UInt8} {ps:List MemPlace} (h:standR v=some (.lit (.string t),ps)):v = .agg #[.string ⟨t.toArray⟩]:=by
 unfold standR at h
 split at h
 ·
  rename_i a
  split at h
  ·
   rename_i s hs
   injection h with h
   injection h with h1 h2
   injection h1 with h1
   injection h1 with h1
   subst h1
   have:a = #[.string s]:=by rw [←Array.toArray_toList (xs:=a),hs]
   rw [this]
  ·
   cases h
 ·
  cases h
def SMap (w:World) (b n:Nat) (f:List UInt8→Option (List UInt8)):Prop :=
 ∃D:DataW Unit,w.ownsMap Tryz.prog 9 standR b n D∧∀s:List UInt8,Maps.has D (.string s)=(f s).isSome∧D.atKey (.string s) (.lit (.string [])) = .lit (.string ((f s).getD []))
theorem zero_stand (w:World):(zeroValue 216).run Tryz.prog w = .ok (.agg #[.string ⟨#[]⟩]) w:=by kernel_rfl
theorem SMap.made (w:World):SMap (w.alloc (.map #[] 0)) w.heap.size 0 (fun _=>none):=⟨.map [],World.ownsMap_made w _ _ _,fun _=>⟨rfl,rfl⟩⟩
theorem SMap.lt {w:World} {b n:Nat} {f:List UInt8→Option (List UInt8)} (h:SMap w b n f):b<w.heap.size:=let ⟨_,h,_⟩:=h;h.lt
theorem SMap.kept {w w':World} {b n:Nat} {f:List UInt8→Option (List UInt8)} (h:SMap w b n f) (hb:w'.heap[b]? = w.heap[b]?):SMap w' b n f:=by
 obtain ⟨D,⟨es,clock,hb',F,hs,hD⟩,hf⟩:=h
 exact ⟨D,⟨es,clock,hb.trans hb',F,hs,hD⟩,hf⟩
section
variable {w:World} {ops:Array Oper} {rest:List Oper} {o:Oper} {a:Act} {Q:Exit→Act→World→Prop}
theorem wpList_smap_look (hg:o.guard=none) (m x:Operand) (hop:o.op=Op.lookup 151 m x true) (b n:Nat) (f:List UInt8→Option (List UInt8)) (hm:a.eval m = .map (some b)) (hown:SMap w b n f)
  (s:List UInt8) (hx:a.eval x = .string ⟨s.toArray⟩) (hs:s.length≤maxLen) (y:Option (List UInt8)) (hy:f s=y)
  (hK:wpList Tryz.prog ops Q rest (a.put o.dst (.tuple #[.agg #[.string ⟨(y.getD []).toArray⟩],.bool y.isSome])) w) :
  wpList Tryz.prog ops Q (o::rest) a w:=by
 subst hy
 obtain ⟨D,h1,h2⟩:=hown
 refine wpList_lookup_own_ok w hg m x 151 hop 9 216 skeyed Tryz.underlying151 standR (zero_stand w) (.lit (.string [])) [] rfl b n D hm h1 _ _ hx (skey s hs) ?_
 intro v ps hv
 rw [(h2 s).2] at hv
 rw [standR_inv hv,(h2 s).1]
 exact hK
theorem wpList_smap_store (hg:o.guard=none) (m x v:Operand) (hop:o.op=Op.mapUpdate 151 m x v) (b n:Nat) (f:List UInt8→Option (List UInt8)) (hm:a.eval m = .map (some b)) (hown:SMap w b n f)
  (s t:List UInt8) (hx:a.eval x = .string ⟨s.toArray⟩) (hs:s.length≤maxLen) (hn:n<maxLen) (hv:a.eval v = .agg #[.string ⟨t.toArray⟩])
  (hK:∀w',SMap w' b (n+1) (fun z=>if z=s then some t else f z)→w.grownBy w' (some b)→wpList Tryz.prog ops Q rest (a.put o.dst undef) w') :
  wpList Tryz.prog ops Q (o::rest) a w:=by
 obtain ⟨D,h1,h2⟩:=hown
 refine wpList_mapUpdate_own w hg m x v 151 hop 9 216 skeyed Tryz.underlying151 _ b n D hm h1 hn _ _ _ hx hv (skey s hs) (.lit (.string t)) [] (standR_mk t) ?_
 intro w' h3 h4
 refine hK w' ⟨_,h3,fun z=>?_⟩ h4
 show Maps.has _ _=(if z=s then some t else f z).isSome∧DataW.atKey _ _ _ = .lit (.string ((if z=s then some t else f z).getD []))
 by_cases hz:z=s
 ·
  rw [if_pos hz,hz]
  exact ⟨Maps.has_put_same h1.isMap (skeylit s) _,Maps.atKey_put_same h1.isMap (skeylit s) _ _⟩
 ·
  rw [if_neg hz,←(h2 z).1,←(h2 z).2]
  have hne:(Lit.string z)≠Lit.string s:=by intro e;injection e with e;exact hz e
  exact ⟨Maps.has_put_other hne _,Maps.atKey_put_other hne _ _⟩
end
end Go.Proofs.YtgnfmopcialllaaGreatDoor
set_option linter.unusedSimpArgs false
set_option linter.unusedVariables false
namespace Go.Proofs.YtgnfmopcialllaaGreatDoor
open Go.RowKit
def RNote (x:Int × List UInt8) (vs:List Value):Prop:=vs=[.int .i64 x.1,.string ⟨x.2.toArray⟩]
theorem RNote.size (x:Int × List UInt8) (vs:List Value) (h:RNote x vs):vs.length=2:=by rw [h];rfl
structure Rdr (s:List UInt8) (r m b:Nat) (w:World) (σ:Ent.RS) (v:Value):Prop where
 at':At s r w σ.rest
 kind:w.cell? ⟨r,2,none⟩=some (.string ⟨σ.kind.toArray⟩)
 kfree:w.frozen? ⟨r,2,none⟩=false
 mcell:w.cell? ⟨r,3,none⟩=some (.map (some m))
 ncell:w.cell? ⟨r,4,none⟩=some v
 nfree:w.frozen? ⟨r,4,none⟩=false
 names:∃n,n+σ.notes.length+σ.rest.length+b≤s.length∧SMap w m n σ.names
 notes:∃fl,w.ownsRow (r+1) 77 2 v σ.notes.length fl∧RepRow RNote σ.notes fl
 lt:m<r
structure Step (r m:Nat) (v v':Value) (w w':World):Prop where
 os:w'.os=w.os
 tape:w'.tape=w.tape
 output:w'.output=w.output
 size:w.heap.size≤w'.heap.size
 block:∀k,k<w.heap.size→k≠r→k≠m→v.ownBlock≠some k→w'.heap[k]? = w.heap[k]?
 own:v'.ownBlock=v.ownBlock ∨ ∃g,v'.ownBlock=some g∧w.heap.size≤g
theorem Step.refl (r m:Nat) (v:Value) (w:World):Step r m v v w w:=⟨rfl,rfl,rfl,Nat.le_refl _,fun _ _ _ _ _=>rfl,.inl rfl⟩
theorem Step.trans {r m:Nat} {v v' v'':Value} {w w' w'':World} (h:Step r m v v' w w') (k:Step r m v' v'' w' w''):Step r m v v'' w w'':=by
 refine ⟨k.os.trans h.os,k.tape.trans h.tape,k.output.trans h.output,Nat.le_trans h.size k.size,fun i hi h1 h2 h3=>?_,?_⟩
 ·
  refine (k.block i (Nat.lt_of_lt_of_le hi h.size) h1 h2 ?_).trans (h.block i hi h1 h2 h3)
  rcases h.own with e | ⟨g,e,hg⟩
  ·
   rw [e];exact h3
  ·
   rw [e];intro e2;injection e2 with e2;omega
 ·
  rcases k.own with e | ⟨g,e,hg⟩
  ·
   rw [e];exact h.own
  ·
   exact .inr ⟨g,e,Nat.le_trans h.size hg⟩
theorem Moved.step {r:Nat} {w w':World} (h:Moved r w w') (m:Nat) (v:Value):Step r m v v w w' :=
 ⟨h.os,h.tape,h.output,Nat.le_of_eq h.size.symm,fun k _ hk _ _=>h.block k hk,.inl rfl⟩
theorem Step.below {w w':World} (h:Below w.heap.size w w') (r m:Nat) (v:Value):Step r m v v w w' :=
 ⟨h.os,h.tape,h.output,h.size,fun k hk _ _ _=>h.block k hk,.inl rfl⟩
theorem grown_of_moved {r:Nat} {w w':World} (h:Moved r w w'):w.grownBy w' (some r):=⟨h.os,h.tape,h.output,Nat.le_of_eq h.size.symm,fun k _ hk=>h.block k (fun e=>hk (by rw [e]))⟩
theorem own_ne {w:World} {r e size n:Nat} {v:Value} {xs:List Value} (h:w.ownsRow (r+1) e size v n xs):v.ownBlock=none∨v.ownBlock≠some r:=by
 cases hv:v.ownBlock with
 | none=>exact .inl rfl
 | some g=>refine .inr (fun e=>?_);injection e with e;have:=(h.lt g hv).1;omega
theorem Rdr.moved {s:List UInt8} {r m b:Nat} {w w':World} {σ:Ent.RS} {v:Value} (h:Rdr s r m b w σ v) (hM:Moved r w w') {l:List UInt8} (hA:At s r w' l) {b':Nat} (hb:l.length+b' ≤ σ.rest.length+b) :
  Rdr s r m b' w' (σ.at l) v:=by
 obtain ⟨n,h1,h2⟩:=h.names
 obtain ⟨fl,h3,h4⟩:=h.notes
 refine ⟨hA,(hM.cell 2 (by decide)).trans h.kind,(hM.frozen 2).trans h.kfree,(hM.cell 3 (by decide)).trans h.mcell,(hM.cell 4 (by decide)).trans h.ncell,(hM.frozen 4).trans h.nfree,⟨n,?_,?_⟩,⟨fl,?_,h4⟩,h.lt⟩
 ·
  show n+σ.notes.length+l.length+b' ≤ s.length
  omega
 ·
  exact h2.kept (hM.block m (Nat.ne_of_lt h.lt))
 ·
  exact h3.kept (grown_of_moved hM) (own_ne h3)
theorem At.below {s:List UInt8} {r:Nat} {w w':World} {l:List UInt8} (h:At s r w l) (hb:Below w.heap.size w w'):At s r w' l :=
 ⟨(hb.cell (p:=⟨r,0,none⟩) h.lt).trans h.text,(let ⟨k,h1,h2,h3⟩:=h.place;⟨k,h1,h2,(hb.cell (p:=⟨r,1,none⟩) h.lt).trans h3⟩),(hb.frozen (p:=⟨r,1,none⟩) h.lt).trans h.free,Nat.lt_of_lt_of_le h.lt hb.size⟩
theorem Rdr.below {s:List UInt8} {r m b:Nat} {w w':World} {σ:Ent.RS} {v:Value} (h:Rdr s r m b w σ v) (hb:Below w.heap.size w w'):Rdr s r m b w' σ v:=by
 obtain ⟨n,h1,h2⟩:=h.names
 obtain ⟨fl,h3,h4⟩:=h.notes
 have hlt:=h.at'.lt
 exact ⟨h.at'.below hb,(hb.cell (p:=⟨r,2,none⟩) hlt).trans h.kind,(hb.frozen (p:=⟨r,2,none⟩) hlt).trans h.kfree,(hb.cell (p:=⟨r,3,none⟩) hlt).trans h.mcell,(hb.cell (p:=⟨r,4,none⟩) hlt).trans h.ncell,(hb.frozen (p:=⟨r,4,none⟩) hlt).trans h.nfree,
  ⟨n,h1,h2.kept (hb.block m h2.lt)⟩,⟨fl,own_below h3 hb,h4⟩,h.lt⟩
theorem Rdr.mono {s:List UInt8} {r m b b':Nat} {w:World} {σ:Ent.RS} {v:Value} (h:Rdr s r m b w σ v) (hb:b' ≤ b):Rdr s r m b' w σ v :=
 ⟨h.at',h.kind,h.kfree,h.mcell,h.ncell,h.nfree,let ⟨n,h1,h2⟩:=h.names;⟨n,by omega,h2⟩,h.notes,h.lt⟩
end Go.Proofs.YtgnfmopcialllaaGreatDoor
set_option linter.unusedSimpArgs false
set_option linter.unusedVariables false
namespace Go.Proofs.YtgnfmopcialllaaGreatDoor
open Go.RowKit
theorem note_info:(Tryz.prog.info? 77).map (fun i=>(i.zero,i.size,i.bytes))=some (some (.agg #[.int .i64 0,.string ⟨#[]⟩]),2,24):=by kernel_rfl
theorem info_parts {P:Program} {e:TypeId} {z:Value} {n b:Nat} (h:(P.info? e).map (fun i=>(i.zero,i.size,i.bytes))=some (some z,n,b)):∃i,P.info? e=some i∧i.zero=some z∧i.size=n∧i.bytes=b:=by
 cases hi:P.info? e with
 | none=>rw [hi] at h;cases h
 | some i=>rw [hi] at h;injection h with h;injection h with h1 h2;injection h2 with h2 h3;exact ⟨i,rfl,h1,h2,h3⟩
theorem grown_cell {w w':World} {row:Option Nat} {r:Nat} (hg:w.grownBy w' row) (hr:r<w.heap.size) (hne:row≠some r) (i:Nat):w'.cell? ⟨r,i,none⟩=w.cell? ⟨r,i,none⟩ :=
 World.cell?_of_block (hg.block r hr (fun e=>hne e.symm))
theorem grown_frozen {w w':World} {row:Option Nat} {r:Nat} (hg:w.grownBy w' row) (hr:r<w.heap.size) (hne:row≠some r) (i:Nat):w'.frozen? ⟨r,i,none⟩=w.frozen? ⟨r,i,none⟩ :=
 World.frozen?_of_block (hg.block r hr (fun e=>hne e.symm))
theorem grown_set (w:World) (r i:Nat) (v:Value):w.grownBy (w.setCell ⟨r,i,none⟩ v) (some r) :=
 ⟨rfl,rfl,rfl,by simp [World.setCell],fun k _ hk=>Below.heap_setCell _ _ _ _ (fun e=>hk (by rw [e]))⟩
theorem Rdr.noted {s:List UInt8} {r m b:Nat} {w w2:World} {σ:Ent.RS} {v v2:Value} {e:Int} {x:List UInt8} (h:Rdr s r m (b+1) w σ v) (hne:v.ownBlock≠some r) (hnm:v.ownBlock≠some m) (hg:w.grownBy w2 v.ownBlock)
  {fl:List Value} (hrep:RepRow RNote σ.notes fl) (hown:w2.ownsRow (r+1) 77 2 v2 (σ.notes.length+1) (fl++[.int .i64 e,.string ⟨x.toArray⟩])) :
  Rdr s r m b (w2.setCell ⟨r,4,none⟩ v2) (σ.note e x) v2:=by
 have hlt:=h.at'.lt
 have hc:=fun i=>grown_cell hg hlt hne i
 have hf:=fun i=>grown_frozen hg hlt hne i
 have hs:∀i,i≠4→(w2.setCell ⟨r,4,none⟩ v2).cell? ⟨r,i,none⟩=w.cell? ⟨r,i,none⟩:=fun i hi=>(World.cell?_setCell_other _ _ _ _ (fun e=>hi (by cases e;rfl))).trans (hc i)
 have hz:∀i,(w2.setCell ⟨r,4,none⟩ v2).frozen? ⟨r,i,none⟩=w.frozen? ⟨r,i,none⟩:=fun i=>(by simp:_=w2.frozen? ⟨r,i,none⟩).trans (hf i)
 obtain ⟨n,h1,h2⟩:=h.names
 obtain ⟨k,h3,h4,h5⟩:=h.at'.place
 refine ⟨⟨(hs 0 (by decide)).trans h.at'.text,⟨k,h3,h4,(hs 1 (by decide)).trans h5⟩,(hz 1).trans h.at'.free,by simpa using Nat.lt_of_lt_of_le hlt hg.size⟩,(hs 2 (by decide)).trans h.kind,(hz 2).trans h.kfree,(hs 3 (by decide)).trans h.mcell,?_,(hz 4).trans h.nfree,⟨n,?_,?_⟩,?_,h.lt⟩
 ·
  exact World.cell?_setCell_same _ _ _ ((hc 4).trans h.ncell)
 ·
  show n+(σ.notes++[(e,x)]).length+σ.rest.length+b≤s.length
  simp
  omega
 ·
  exact h2.kept ((Below.heap_setCell _ _ _ _ (Nat.ne_of_lt h.lt)).trans (hg.block m h2.lt (fun e=>hnm e.symm)))
 ·
  refine ⟨_,?_,RepRow.snoc (x:=(e,x)) rfl hrep⟩
  have:(σ.note e x).notes.length=σ.notes.length+1:=by simp [Ent.RS.note]
  rw [this]
  exact hown.kept (grown_set w2 r 4 v2) (own_ne hown)
theorem step_noted {r m:Nat} {w w2:World} {v v2:Value} (hg:w.grownBy w2 v.ownBlock) (hat:v2.ownBlock=v.ownBlock∨v2.ownBlock=some (w.heap.size+1)) :
  Step r m v v2 w (w2.setCell ⟨r,4,none⟩ v2) :=
 ⟨hg.os,hg.tape,hg.output,by simpa using hg.size,fun k hk h1 _ h3=>(Below.heap_setCell _ _ _ _ h1).trans (hg.block k hk (fun e=>h3 e.symm)),hat.imp id (fun e=>⟨_,e,by omega⟩)⟩
set_option maxRecDepth 100000 in
set_option maxHeartbeats 800000 in
theorem reader_note (s:List UInt8) (r m b:Nat) (σ:Ent.RS) (v:Value) (w:World) (e:Int) (x:List UInt8) (hs:s.length≤1000000000) (hR:Rdr s r m (b+1) w σ v) :
  Calls Tryz.prog 68 #[.pointer (some ⟨r,0,none⟩),.int .i64 e,.string ⟨x.toArray⟩] w fun e' w'=>e' = .returned (.tuple #[])∧∃v',Rdr s r m b w' (σ.note e x) v'∧Step r m v v' w w':=by
 have e4:=hR.ncell
 have f4:=hR.nfree
 have hlt:=hR.at'.lt
 obtain ⟨fl,hown,hrep⟩:=hR.notes
 obtain ⟨n,hn,hmap⟩:=hR.names
 obtain ⟨i0,hi,hz0,hz1,hz2⟩:=info_parts note_info
 have hne:v.ownBlock≠some r:=by
                    rcases own_ne hown with e | e
                    ·
                     rw [e];simp
                    ·
                     exact e
 have hnm:v.ownBlock≠some m:=fun e=>by have:=(hown.lt m e).1;have:=hR.lt;omega
 have Hne:=η hne;have Hnm:=η hnm;have Hrep:=η hrep;clear hne hnm
 have Hown:=η hown;have HR:=η hR;have Hi:=η hi;have Hz0:=η hz0;have Hz1:=η hz1;have Hz2:=η hz2
 have hcnt:σ.notes.length≤1000000000:=by omega
 have hlt1:r+1≤w.heap.size:=hlt
 clear hown hR hi hz0 hz1 hz2 hrep hmap hn
 go_enter Tryz.func68, Tryz.ntmps68
 go_wp2_with (at_builtin;go_loud (refine wpList_append1 rfl (.tmp 10) (.tmp 14) 40 rfl (r+1) 77 i0 (.agg #[.int .i64 0,.string ⟨#[]⟩]) 2 24 Tryz.underlying40 Hi.out Hz0.out Hz1.out Hz2.out (by rfl) (by decide) _ _ _ Hown.out rfl [.int .i64 e,.string ⟨x.toArray⟩] rfl (by simp) rfl (by simp [Value.oneCell']) (by unfold maxLen;omega) (by omega) hlt1 ?_);intro v2 w2 own2 g2 at2;obtain ⟨p2,cap2,rfl,hp2,hq2⟩:=own2.form (Nat.succ_pos _);have e24:=(grown_cell g2 hlt Hne.out 4).trans e4;have f24:=(grown_frozen g2 hlt Hne.out 4).trans f4;have Own2:=η own2;have At2:=η at2;have G2:=η g2;clear own2 at2 g2)
 refine bodyPost_end (results_none rfl _ _ _) rfl ?_
 exact ⟨rfl,_,HR.out.noted Hne.out Hnm.out G2.out Hrep.out Own2.out,step_noted G2.out At2.out⟩
end Go.Proofs.YtgnfmopcialllaaGreatDoor
