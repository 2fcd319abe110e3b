/- The walks of package entry's reader: an entry's fields, as they are put together. The walks of package entry's reader: an entry. The walks of package entry's reader: what the whole reading needs of an entry. -/
import Derived.Test.YtgnfmopcialllaaGreatDoorG03
import Derived.Test.YtgnfmopcialllaaGreatDoorTk
import Derived.StillTailTactics
set_option linter.unusedSimpArgs false
set_option linter.unusedVariables false
namespace Go.Proofs.YtgnfmopcialllaaGreatDoor
open Go.RowKit
namespace Ent
theorem valueN_names:∀(n:Nat) (acc:List UInt8) (σ:RS),(valueN n acc σ).2.names=σ.names
 | 0,_,_=>rfl
 | n+1,acc,σ=>by
  unfold valueN
  split
  ·
   exact part_names σ
  ·
   split
   ·
    rw [valueN_names n];exact part_names σ
   ·
    exact part_names σ
theorem valueN_len:∀(n:Nat) (acc:List UInt8) (σ:RS),(valueN n acc σ).2.rest.length≤σ.rest.length
 | 0,_,_=>Nat.le_refl _
 | n+1,acc,σ=>by
  have h1:=part_len σ
  have h2:=isL_len 35 (part σ).2.rest
  unfold valueN
  split
  ·
   exact h1
  ·
   split
   ·
    refine Nat.le_trans (valueN_len n _ _) ?_
    show (isL 35 (part σ).2.rest).length≤_
    omega
   ·
    show (isL 35 (part σ).2.rest).length≤_
    omega
theorem value_names (σ:RS):(value σ).2.names=σ.names:=valueN_names _ _ _
theorem value_len (σ:RS):(value σ).2.rest.length≤σ.rest.length:=valueN_len _ _ _
end Ent
theorem field_info:(Tryz.prog.info? 218).map (fun i=>(i.zero,i.size,i.bytes))=some (some (.agg #[.string ⟨#[]⟩,.string ⟨#[]⟩]),2,32):=by kernel_rfl
theorem leaves_tmps {P:Program} {fn:Func} {t t':Array Value} {R:Ending→World→Prop} (h:results fn t=results fn t'):∀(ds:List Deferred) (u:FrameMode) (w:World),Leaves P fn t R ds u w→Leaves P fn t' R ds u w
 | [],.returning,w,⟨v,h1,h2⟩=>⟨v,by rw [←h];exact h1,h2⟩
 | [],.panicking _,_,h1=>h1
 | [],.run,_,h1=>h1.elim
 | d::ds,u,w,⟨h1,fv,cap,f,args,h2,h3,h4⟩=>⟨h1,fv,cap,f,args,h2,h3,h4.mono (fun e u' w' he=>by
   cases e with
   | returned v=>exact leaves_tmps h ds _ _ he
   | panicked c=>exact leaves_tmps h ds _ _ he
   | outgrown=>exact he)⟩
theorem results_put (t:Array Value) (i:Nat) (v:Value) (hi:5≤i):results Tryz.f67 (t.setIfInBounds i v)=results Tryz.f67 t:=by
 have h2:(t.setIfInBounds i v).getD 2 undef=t.getD 2 undef:=by simp [Array.getElem?_setIfInBounds,show i≠2 by omega]
 have h3:(t.setIfInBounds i v).getD 3 undef=t.getD 3 undef:=by simp [Array.getElem?_setIfInBounds,show i≠3 by omega]
 have h4:(t.setIfInBounds i v).getD 4 undef=t.getD 4 undef:=by simp [Array.getElem?_setIfInBounds,show i≠4 by omega]
 unfold results
 rw [Tryz.results67]
 simp only [List.mapM_toArray,List.mapM_cons,List.mapM_nil,h2,h3,h4]
theorem hQ_entry {R:Ending→World→Prop} (i:Nat) (v:Value) (hi:5≤i) (c:List PanicEntry) (a:Act) (w:World) (h:bodyPostD Tryz.prog Tryz.f67 R (.panic c) (a.put (some i) v) w) :
  bodyPostD Tryz.prog Tryz.f67 R (.panic c) a w :=
 leaves_tmps (results_put a.tmps i v hi) _ _ _ h
def put1 (w:World) (g:Nat) (k y:List UInt8) (vf:Value):World:=((w.setCell ⟨g,0,none⟩ (.string ⟨k.toArray⟩)).setCell ⟨g,1,none⟩ (.string ⟨y.toArray⟩)).setCell ⟨g,2,none⟩ vf
theorem died_put1 (w:World) (g:Nat) (k y:List UInt8) (vf:Value):Died g w (put1 w g k y vf) where
 os:=by simp only [put1,World.setCell]
 tape:=by simp only [put1,World.setCell]
 output:=by simp only [put1,World.setCell]
 size:=by simp [put1]
 block:=fun j _ h0 _ _=>by
  unfold put1
  rw [Below.heap_setCell _ _ _ _ h0,Below.heap_setCell _ _ _ _ h0,Below.heap_setCell _ _ _ _ h0]
theorem Res3.put1 {w:World} {g:Nat} {k y:List UInt8} {vf:Value} {is:Bool} {e:Int} (h:Res3 w g k y vf is e) (k' y':List UInt8) (vf':Value):Res3 (put1 w g k' y' vf') g k' y' vf' is e:=by
 have ot:∀(W:World) (a b:Addr) (v:Value),a≠b→(W.setCell b v).cell? a=W.cell? a:=fun W a b v hne=>World.cell?_setCell_other _ _ _ _ hne.symm
 unfold Go.Proofs.YtgnfmopcialllaaGreatDoor.put1
 refine ⟨?_,?_,?_,?_,?_,fun i hi=>by simpa using h.fk i hi,by simpa using h.fi,by simpa using h.fe,by simpa using h.lt⟩
 ·
  rw [ot _ _ _ _ (by simp),ot _ _ _ _ (by simp)]
  exact World.cell?_setCell_same _ _ _ h.k
 ·
  rw [ot _ _ _ _ (by simp)]
  exact World.cell?_setCell_same _ _ _ ((ot _ _ _ _ (by simp)).trans h.y)
 ·
  exact World.cell?_setCell_same _ _ _ (((ot _ _ _ _ (by simp)).trans (ot _ _ _ _ (by simp))).trans h.vf)
 ·
  rw [ot _ _ _ _ (by simp),ot _ _ _ _ (by simp),ot _ _ _ _ (by simp)]
  exact h.is
 ·
  rw [ot _ _ _ _ (by simp),ot _ _ _ _ (by simp),ot _ _ _ _ (by simp)]
  exact h.e
theorem died_put2 (w:World) (g:Nat) (vf:Value):Died g w (w.setCell ⟨g,2,none⟩ vf) where
 os:=by simp only [World.setCell]
 tape:=by simp only [World.setCell]
 output:=by simp only [World.setCell]
 size:=by simp
 block:=fun j _ h0 _ _=>Below.heap_setCell _ _ _ _ h0
theorem Res3.put2 {w:World} {g:Nat} {k y:List UInt8} {vf:Value} {is:Bool} {e:Int} (h:Res3 w g k y vf is e) (vf':Value):Res3 (w.setCell ⟨g,2,none⟩ vf') g k y vf' is e:=by
 have ot:∀(W:World) (a b:Addr) (v:Value),a≠b→(W.setCell b v).cell? a=W.cell? a:=fun W a b v hne=>World.cell?_setCell_other _ _ _ _ hne.symm
 refine ⟨?_,?_,?_,?_,?_,fun i hi=>by simpa using h.fk i hi,by simpa using h.fi,by simpa using h.fe,by simpa using h.lt⟩
 ·
  exact (ot _ _ _ _ (by simp)).trans h.k
 ·
  exact (ot _ _ _ _ (by simp)).trans h.y
 ·
  exact World.cell?_setCell_same _ _ _ h.vf
 ·
  exact (ot _ _ _ _ (by simp)).trans h.is
 ·
  exact (ot _ _ _ _ (by simp)).trans h.e
def wrapK (u y:List UInt8) (p:Option (List Ent.Fld) × Ent.RS):Option (Option Ent.Ent) × Ent.RS:=match p.1 with | none=>(none,p.2) | some fs=>(some (some ⟨u,y,fs⟩),p.2)
structure FIn (w:World) (vf:Value) (fs:List Ent.Fld) (W:World) (v:Value):Prop where
 row:∃fl,W.ownsRow w.heap.size 218 2 vf fs.length fl∧RepRow RFld fs fl
 sep:∀j,vf.ownBlock=some j→v.ownBlock≠some j∧w.heap.size+2<j
theorem FIn.nil (w W:World) (v:Value):FIn w (.slice none 0 0) [] W v:=⟨⟨[],⟨rfl,.inl ⟨rfl,rfl⟩⟩,rfl⟩,fun j h=>by simp [Value.ownBlock] at h⟩
section
variable {s:List UInt8} {r m b:Nat} {w:World} {v0:Value} {σ:Ent.RS} {k y:List UInt8} {vf:Value} {is:Bool} {e:Int} {W:World} {v:Value} {fs:List Ent.Fld}
theorem FIn.next (hF:FIn w vf fs W v) (hE:EIn s r m b w v0 σ k y vf is e W v) {W':World} {v':Value} (hS:Step r m v v' W W'):FIn w vf fs W' v':=by
 have hl:=hE.lt
 have hm:=hE.rdr.lt
 obtain ⟨fl,h1,h2⟩:=hF.row
 refine ⟨⟨fl,own_same h1 (fun j hj=>?_),h2⟩,fun j hj=>⟨?_,(hF.sep j hj).2⟩⟩
 ·
  obtain ⟨h3,h4⟩:=hF.sep j hj
  exact hS.block j (h1.lt j hj).2 (by omega) (by omega) h3
 ·
  rcases hS.own with e | ⟨g,e,hg⟩
  ·
   rw [e];exact (hF.sep j hj).1
  ·
   rw [e];intro e2;injection e2 with e2;have:=(h1.lt j hj).2;omega
theorem FIn.died (hF:FIn w vf fs W v) {W':World} (hD:Died w.heap.size W W'):FIn w vf fs W' v:=by
 obtain ⟨fl,h1,h2⟩:=hF.row
 exact ⟨⟨fl,own_same h1 (fun j hj=>by have:=(hF.sep j hj).2;exact hD.block j (h1.lt j hj).2 (by omega) (by omega) (by omega)),h2⟩,hF.sep⟩
theorem FIn.slice (hF:FIn w vf fs W v):SliceIn (fun j=>w.heap.size≤j∧v.ownBlock≠some j) 2 RFld W vf fs:=by
 obtain ⟨fl,h1,h2⟩:=hF.row
 exact SliceIn.own h1 h2 RFld.size rfl (fun j hj=>⟨by have:=(hF.sep j hj).2;omega,(hF.sep j hj).1⟩)
theorem EIn.appended (hE:EIn s r m b w v0 σ k y vf is e W v) (hF:FIn w vf fs W v) {W':World} (hg:W.grownBy W' vf.ownBlock):EIn s r m b w v0 σ k y vf is e W' v:=by
 have hl:=hE.lt
 have hm:=hE.rdr.lt
 have hz:=hE.res.lt
 have hne:∀j,j≤w.heap.size+2→some j≠vf.ownBlock:=fun j hj e=>by have:=(hF.sep j e.symm).2;omega
 obtain ⟨fl,h1,_⟩:=hE.rdr.notes
 refine ⟨hE.rdr.same (hg.block r (by omega) (hne r (by omega))) (hg.block m (by omega) (hne m (by omega))) (fun j hj=>hg.block j (h1.lt j hj).2 (fun e=>(hF.sep j e.symm).1 hj)) hg.size,?_,hE.res.same (fun j _ h2=>hg.block j (by omega) (hne j h2)) hg.size,hE.away,hl⟩
 exact ⟨hg.os.trans hE.step.os,hg.tape.trans hE.step.tape,hg.output.trans hE.step.output,Nat.le_trans hE.step.size hg.size,fun j hj h1 h2 h3=>(hg.block j (by omega) (hne j (by omega))).trans (hE.step.block j hj h1 h2 h3),hE.step.own⟩
theorem FIn.appended (hE:EIn s r m b w v0 σ k y vf is e W v) (hF:FIn w vf fs W v) {W':World} {vf':Value} {f:Ent.Fld} {fl:List Value} (hrep:RepRow RFld fs fl) (hown:W'.ownsRow w.heap.size 218 2 vf' (fs.length+1) (fl++[.string ⟨f.name.toArray⟩,.string ⟨f.text.toArray⟩]))
  (hat:vf'.ownBlock=vf.ownBlock∨vf'.ownBlock=some (W.heap.size+1)):FIn w vf' (fs++[f]) W' v:=by
 have hz:=hE.res.lt
 refine ⟨⟨_,?_,RepRow.snoc (x:=f) rfl hrep⟩,fun j hj=>?_⟩
 ·
  rw [List.length_append];exact hown
 ·
  rcases hat with e | e
  ·
   rw [e] at hj;exact hF.sep j hj
  ·
   rw [e] at hj
   injection hj with hj
   refine ⟨fun h=>?_,by omega⟩
   obtain ⟨fl2,h1,_⟩:=hE.rdr.notes
   have:=(h1.lt j h).2
   omega
theorem FIn.form (hF:FIn w vf fs W v):∃p n c,vf = .slice p n c:=by
 obtain ⟨fl,h1,_⟩:=hF.row
 rcases h1.2 with ⟨h,_⟩ | ⟨g,cap,cur,h,_⟩
 ·
  exact ⟨_,_,_,h⟩
 ·
  exact ⟨_,_,_,h⟩
theorem FIn.below (hF:FIn w vf fs W v) {W':World} (hb:Below W.heap.size W W'):FIn w vf fs W' v :=
 ⟨let ⟨fl,h1,h2⟩:=hF.row;⟨fl,own_below h1 hb,h2⟩,hF.sep⟩
theorem entry_done (hE:EIn s r m b w v0 σ k y vf is e W v) (hF:FIn w vf fs W v) (tmps:Array Value)
  (h2:tmps[2]?.getD undef = .pointer (some ⟨w.heap.size,0,none⟩)) (h3:tmps[3]?.getD undef = .pointer (some ⟨w.heap.size+1,0,none⟩)) (h4:tmps[4]?.getD undef = .pointer (some ⟨w.heap.size+2,0,none⟩))
  (o:Option (Option Ent.Ent) × Ent.RS) (ho:o=(some (some ⟨k,y,fs⟩),σ)) :
  Leaves Tryz.prog Tryz.f67 tmps (EntryPost s r m b w v0 o) (tail1 w.heap.size) .returning (put3 W w.heap.size k y vf true 0):=by
 refine entry_leaves hE tmps h2 h3 h4 k y vf true 0 o (fun w' he hb=>?_)
 subst ho
 exact ⟨_,v,rfl,he.rdr,he.step,_,rfl,vf,rfl,((hF.died (died_put W w.heap.size k y vf true 0)).below hb).slice⟩
end
end Go.Proofs.YtgnfmopcialllaaGreatDoor
set_option linter.unusedSimpArgs false
set_option linter.unusedVariables false
namespace Go.Proofs.YtgnfmopcialllaaGreatDoor
open Go.RowKit
theorem size_alloc1 (w:World) (o:Obj):(w.alloc o).heap.size=w.heap.size+1:=by
 show (w.heap.push o).size=_
 rw [Array.size_push]
theorem new_frozen (w:World) (cs:Array Value) (t:TypeId) (i:Nat):(w.alloc (.cells cs t)).frozen? ⟨w.heap.size,i,none⟩=false:=by
 unfold World.frozen?
 rw [heap_alloc_new w _]
 simp
theorem start3 (w:World) (t1 t2 t3:TypeId):Res3 (((w.alloc (.cells #[.string ⟨#[]⟩,.string ⟨#[]⟩,.slice none 0 0] t1)).alloc (.cells #[.bool false] t2)).alloc (.cells #[.int .i64 0] t3)) w.heap.size [] [] (.slice none 0 0) false 0:=by
 obtain ⟨W1,h1⟩:∃W1,W1=w.alloc (.cells #[.string ⟨#[]⟩,.string ⟨#[]⟩,.slice none 0 0] t1):=⟨_,rfl⟩
 obtain ⟨W2,h2⟩:∃W2,W2=W1.alloc (.cells #[.bool false] t2):=⟨_,rfl⟩
 rw [←h1,←h2]
 have s1:W1.heap.size=w.heap.size+1:=by rw [h1,size_alloc1]
 have s2:W2.heap.size=w.heap.size+2:=by rw [h2,size_alloc1,s1]
 have b2:Below W1.heap.size W1 W2:=by rw [h2];exact below_new _ _
 have b3:=below_new W2 (.cells #[.int .i64 0] t3)
 have c1:∀(i:Nat) (u:Value),#[Value.string ⟨#[]⟩,.string ⟨#[]⟩,.slice none 0 0][i]? = some u→W1.cell? ⟨w.heap.size,i,none⟩=some u:=by
  intro i u hu
  rw [h1,cell_of_row _ _ _ _ _ _ (heap_alloc_new w _)]
  exact hu
 have c2:W2.cell? ⟨w.heap.size+1,0,none⟩=some (.bool false):=by rw [h2,←s1];exact new_cell W1 _ _
 have c3:=new_cell W2 (.int .i64 0) t3
 rw [s2] at c3
 have f1:∀i,W1.frozen? ⟨w.heap.size,i,none⟩=false:=fun i=>by rw [h1];exact new_frozen w _ _ i
 have f2:W2.frozen? ⟨w.heap.size+1,0,none⟩=false:=by rw [h2,←s1];exact new_frozen W1 _ _ 0
 have f3:=new_frozen W2 #[.int .i64 0] t3 0
 rw [s2] at f3
 have q:∀i,(W2.alloc (.cells #[.int .i64 0] t3)).cell? ⟨w.heap.size,i,none⟩=W1.cell? ⟨w.heap.size,i,none⟩:=fun i =>
  (b3.cell (p:=⟨w.heap.size,i,none⟩) (by show w.heap.size<_;omega)).trans (b2.cell (p:=⟨w.heap.size,i,none⟩) (by show w.heap.size<_;omega))
 refine ⟨(q 0).trans (c1 0 _ rfl),(q 1).trans (c1 1 _ rfl),(q 2).trans (c1 2 _ rfl),(b3.cell (p:=⟨w.heap.size+1,0,none⟩) (by show w.heap.size+1<_;omega)).trans c2,c3,fun i _=>?_,?_,f3,?_⟩
 ·
  exact ((b3.frozen (p:=⟨w.heap.size,i,none⟩) (by show w.heap.size<_;omega)).trans (b2.frozen (p:=⟨w.heap.size,i,none⟩) (by show w.heap.size<_;omega))).trans (f1 i)
 ·
  exact (b3.frozen (p:=⟨w.heap.size+1,0,none⟩) (by show w.heap.size+1<_;omega)).trans f2
 ·
  rw [size_alloc1,s2];omega
theorem start_in {s:List UInt8} {r m b:Nat} {w:World} {σ:Ent.RS} {v:Value} (h:Rdr s r m b w σ v) (t1 t2 t3:TypeId) :
  EIn s r m b w v σ [] [] (.slice none 0 0) false 0 (((w.alloc (.cells #[.string ⟨#[]⟩,.string ⟨#[]⟩,.slice none 0 0] t1)).alloc (.cells #[.bool false] t2)).alloc (.cells #[.int .i64 0] t3)) v:=by
 have hb:Below w.heap.size w (((w.alloc (.cells #[.string ⟨#[]⟩,.string ⟨#[]⟩,.slice none 0 0] t1)).alloc (.cells #[.bool false] t2)).alloc (.cells #[.int .i64 0] t3)) :=
  (((Below.refl w.heap.size w).alloc (Nat.le_refl _) _).alloc (by rw [size_alloc1];omega) _).alloc (by rw [size_alloc1,size_alloc1];omega) _
 refine ⟨h.below hb,Step.below hb r m v,start3 w t1 t2 t3,fun j h1 _=>(h.away h1).2.2,h.at'.lt⟩
set_option maxRecDepth 100000 in
set_option maxHeartbeats 3200000 in
theorem reader_entry (s:List UInt8) (r m b:Nat) (σ:Ent.RS) (v:Value) (w:World) (hs:s.length≤1000000000) (hN:Ent.NamesOk σ) (hR:Rdr s r m b w σ v) :
  Calls Tryz.prog 67 #[.pointer (some ⟨r,0,none⟩)] w fun e w'=>EntryPost s r m b w v (Ent.entry σ) e w':=by
 have hsm:s.length≤maxLen:=by unfold maxLen;omega
 have hmf:∀(fn:Fn) (first cap:Array Value) (w:World),(Instr.makeFunc fn first cap).run Tryz.prog w = .ok (.func fn first cap) w:=fun _ _ _ _=>rfl
 obtain ⟨o,ho⟩:∃o,Ent.entry σ=o:=⟨_,rfl⟩
 rw [ho]
 unfold Ent.entry at ho
 have Ho:=η ho;have HR:=η hR;have HN:=η hN;clear ho hR hN
 go_enter_defers Tryz.func67, Tryz.ntmps67
 go_upto_region 2 with fail
 have HE:=η (start_in HR.out 60 4 25)
 generalize ((w.alloc (.cells #[.string ⟨#[]⟩,.string ⟨#[]⟩,.slice none 0 0] 60)).alloc (.cells #[.bool false] 4)).alloc (.cells #[.int .i64 0] 25)=W at HE ⊢
 clear HR
 have e2:=HE.out.rdr.kind
 have f2:=HE.out.rdr.kfree
 go_upto_region 3 with fail
 replace HE:=η (HE.out.kinded [])
 generalize W.setCell ⟨r,2,none⟩ (.string ⟨#[]⟩)=W1 at HE ⊢
 clear e2 f2
 cases hq:(Ent.mark σ.rest).1 with
 | none =>
  have ho:=Ho.out
  rw [hq] at ho
  have Hq:=η hq;have Ho2:=η ho;clear hq ho Ho
  have Hl:=η (Ent.mark_len σ.rest)
  go_wp2_with (go_at_call 123; refine (reader_mark s r _ _ hsm HE.out.rdr.at').mono ?_;rintro e wa ⟨he,hA,hM⟩;simp only [said,Hq.out] at he;subst he)
  exact entry_dies (HE.out.moved (b':=b) hM hA (Nat.add_le_add_right Hl.out b)) _ rfl rfl rfl o Ho2.out.symm
 | some k =>
  have ho:=Ho.out
  rw [hq] at ho
  dsimp only at ho
  obtain ⟨_,hlt⟩:=Ent.mark_lt σ.rest k hq
  have hkl:=Ent.mark_tlen σ.rest k hq
  have hrl:σ.rest.length≤s.length:=by obtain ⟨n,h,_⟩:=HE.out.rdr.names;have:n+σ.notes.length+σ.rest.length+b≤s.length:=h;omega
  have hkl2:k.length≤maxLen:=by unfold maxLen;omega
  obtain ⟨u,hu⟩:∃u,Ent.small k=u:=⟨_,rfl⟩
  have hul:u.length≤1000000000:=by rw [←hu];unfold Ent.small;rw [List.length_map];omega
  rw [hu] at ho
  have hbud:(Ent.mark σ.rest).2.length+(b+1)≤σ.rest.length+b:=by omega
  have Hq:=η hq;have Hu:=η hu;have Hbud:=η hbud
  clear hq hu Ho hlt hkl hrl hbud
  go_upto_region 4 with (first
   | (go_at_call 123; refine (reader_mark s r _ _ hsm HE.out.rdr.at').mono ?_;rintro e wa ⟨he,hA,hM⟩;simp only [said,Hq.out] at he;subst he;have HE2:=η (HE.out.moved (b':=b+1) hM hA Hbud.out);clear hM hA HE)
   | (go_at_call 122; refine (entry_small k _ hkl2).mono ?_;rintro e wb ⟨rfl,hb⟩;have HE3:=η (HE2.out.below hb);clear hb HE2;have e2:=HE3.out.rdr.kind;have f2:=HE3.out.rdr.kfree;rw [Hu.out]))
  replace HE:=η (HE3.out.kinded u)
  generalize wb.setCell ⟨r,2,none⟩ (.string ⟨u.toArray⟩)=W2 at HE ⊢
  clear e2 f2 HE3 Hbud Hq Hu hkl2
  obtain ⟨σ1,hs1⟩:∃σ1:Ent.RS,σ1={ σ with rest:=(Ent.mark σ.rest).2,kind:=u }:=⟨_,rfl⟩
  have hN1:Ent.NamesOk σ1:=by rw [hs1];exact HN.out
  have he4:EIn s r m (b+1) w v σ1 [] [] (.slice none 0 0) false 0 W2 v:=by rw [hs1];exact HE.out
  have HE4:=η he4;clear he4
  have hk1:σ1.kind=u:=by rw [hs1]
  rw [←hs1] at ho
  clear HE HN hs1
  have HN:=η hN1;clear hN1
  unfold Ent.entryB at ho
  cases hb:Ent.isB 123 σ1.rest
  ·
   rw [hb,if_neg (by simp)] at ho
   have Ho2:=η ho;have Hb:=η hb;clear ho hb
   have Hl:=η (Ent.isL_len 123 σ1.rest)
   go_wp2_with (go_at_call 124; refine (reader_mustc s r _ 123 123 rfl _ hsm (by decide) HE4.out.rdr.at').mono ?_;rintro e wc ⟨he,hA,hM⟩;simp only [Hb.out,if_false,Bool.false_eq_true] at he;subst he)
   exact entry_dies ((HE4.out.mono (Nat.le_succ b)).moved (b':=b) hM hA (Nat.add_le_add_right Hl.out b)) _ rfl rfl rfl o Ho2.out.symm
  ·
   rw [hb,if_pos rfl] at ho
   have Hb:=η hb;clear hb
   have Hl:=η (Ent.isL_len 123 σ1.rest)
   obtain ⟨σ2,hs2⟩:∃σ2,σ2=σ1.at (Ent.isL 123 σ1.rest):=⟨_,rfl⟩
   rw [←hs2] at ho
   have hN2:Ent.NamesOk σ2:=by rw [hs2];exact HN.out
   have hk2:σ2.kind=u:=by rw [hs2];exact hk1
   have Hs2:=η hs2;clear hs2
   go_upto_region 5 with (go_at_call 124; refine (reader_mustc s r _ 123 123 rfl _ hsm (by decide) HE4.out.rdr.at').mono ?_;rintro e wc ⟨he,hA,hM⟩;simp only [Hb.out,if_true] at he;subst he;have HE5:=η (HE4.out.moved (b':=b+1) hM hA (Nat.add_le_add_right Hl.out (b+1)));rw [←Hs2.out] at HE5;clear hM hA HE4)
   have e2:=HE5.out.rdr.kind
   rw [hk2] at e2
   clear HN Hb Hl Hs2 hk1
   have HN:=η hN2;clear hN2
   by_cases hstr:u=Ent.strW
   ·
    rw [if_pos hstr] at ho
    have e3:wc.cell? ⟨r,2,none⟩=some (.string ⟨#[115,116,114,105,110,103]⟩):=by rw [e2,hstr];rfl
    clear e2
    unfold Ent.entryS at ho
    cases hq:(Ent.mark σ2.rest).1 with
    | none =>
     rw [Ent.pair_bad1 σ2 hq] at ho
     have Ho2:=η ho;have Hq:=η hq;clear ho hq
     have Hl:=η (Ent.mark_len σ2.rest)
     go_wp2_with (go_at_call 123; refine (reader_mark s r _ _ hsm HE5.out.rdr.at').mono ?_;rintro e wd ⟨he,hA,hM⟩;simp only [said,Hq.out] at he;subst he)
     exact entry_dies ((HE5.out.mono (Nat.le_succ b)).moved (b':=b) hM hA (Nat.add_le_add_right Hl.out b)) _ rfl rfl rfl o Ho2.out.symm
    | some n =>
     obtain ⟨_,hlt⟩:=Ent.mark_lt σ2.rest n hq
     have hnl:=Ent.mark_tlen σ2.rest n hq
     have hrl:σ2.rest.length≤s.length:=by obtain ⟨c,h,_⟩:=HE5.out.rdr.names;omega
     have hnl2:n.length≤maxLen:=by unfold maxLen;omega
     obtain ⟨z,hz⟩:∃z,Ent.small n=z:=⟨_,rfl⟩
     have hzl:z.length≤maxLen:=by rw [←hz];unfold Ent.small;rw [List.length_map];exact hnl2
     have hbud:(Ent.mark σ2.rest).2.length+(b+1)≤σ2.rest.length+(b+1):=by omega
     have Hq:=η hq;have Hz:=η hz;have Hbud:=η hbud
     clear hz hnl hrl hbud hlt
     go_upto_region 7 with (first
      | (go_at_call 123; refine (reader_mark s r _ _ hsm HE5.out.rdr.at').mono ?_;rintro e wd ⟨he,hA,hM⟩;simp only [said,Hq.out] at he;subst he;have HE6:=η (HE5.out.moved (b':=b+1) hM hA Hbud.out);clear hM hA HE5)
      | (go_at_call 122; refine (entry_small n _ hnl2).mono ?_;rintro e wf ⟨rfl,hb⟩;have HE7:=η (HE6.out.below hb);clear hb HE6;rw [Hz.out]))
     clear e3 Hbud
     obtain ⟨σ3,hs3⟩:∃σ3,σ3=σ2.at (Ent.mark σ2.rest).2:=⟨_,rfl⟩
     rw [←hs3] at HE7
     have hr3:σ3.rest=(Ent.mark σ2.rest).2:=by rw [hs3];rfl
     have hat:∀l,σ2.at l=σ3.at l:=fun l=>by rw [hs3];rfl
     have hN3:Ent.NamesOk σ3:=by rw [hs3];exact HN.out
     cases hb:Ent.isB 61 σ3.rest
     ·
      rw [Ent.pair_bad2 σ2 n hq (by rw [←hr3];exact hb),←hr3,hat] at ho
      have Ho2:=η ho;have Hb:=η hb;clear ho hq hb hs3 hr3 hat
      have Hl:=η (Ent.isL_len 61 σ3.rest)
      go_wp2_with (go_at_call 124; refine (reader_mustc s r _ 61 61 rfl _ hsm (by decide) HE7.out.rdr.at').mono ?_;rintro e wg ⟨he,hA,hM⟩;simp only [Hb.out,if_false,Bool.false_eq_true] at he;subst he)
      exact entry_dies ((HE7.out.mono (Nat.le_succ b)).moved (b':=b) hM hA (Nat.add_le_add_right Hl.out b)) _ rfl rfl rfl o Ho2.out.symm
     ·
      have Hb:=η hb
      have Hl:=η (Ent.isL_len 61 σ3.rest)
      obtain ⟨σ4,hs4⟩:∃σ4,σ4=σ3.at (Ent.isL 61 σ3.rest):=⟨_,rfl⟩
      have hp4:σ2.at (Ent.isL 61 (Ent.mark σ2.rest).2)=σ4:=by rw [hs4,hr3.symm,hat]
      have hN4:Ent.NamesOk σ4:=by rw [hs4];exact hN3
      have Hs4:=η hs4;have HN4:=η hN4
      have hb2:Ent.isB 61 (Ent.mark σ2.rest).2=true:=by rw [←hr3];exact hb
      clear hs4 hN4 hs3 hr3 hat hN3 hb HN
      go_upto_region 8 with (go_at_call 124; refine (reader_mustc s r _ 61 61 rfl _ hsm (by decide) HE7.out.rdr.at').mono ?_;rintro e wg ⟨he,hA,hM⟩;simp only [Hb.out,if_true] at he;subst he;have HE8:=η (HE7.out.moved (b':=b+1) hM hA (Nat.add_le_add_right Hl.out (b+1)));rw [←Hs4.out] at HE8;clear hM hA HE7)
      clear Hl Hb Hs4
      cases hv:(Ent.value σ4).1 with
      | none =>
       rw [Ent.pair_bad3 σ2 n hq hb2 (by rw [hp4];exact hv),hp4] at ho
       have Ho2:=η ho;have Hv:=η hv;clear ho hq hv hp4 hb2
       go_wp2_with (go_at_call 125; refine (reader_value s r m (b+1) σ4 v _ hs HN4.out HE8.out.rdr).mono ?_;rintro e wh ⟨he,v2,hR,hS⟩;simp only [said,Hv.out] at he;subst he)
       exact entry_dies ((HE8.out.next hR hS).mono (Nat.le_succ b)) _ rfl rfl rfl o Ho2.out.symm
      | some t =>
       rw [Ent.pair_ok σ2 n t hq hb2 (by rw [hp4];exact hv),hp4] at ho
       dsimp only at ho
       rw [Hz.out] at ho
       have Hv:=η hv;clear hq hv hp4 hb2
       obtain ⟨σ5,hs5⟩:∃σ5,σ5=(Ent.value σ4).2:=⟨_,rfl⟩
       rw [←hs5] at ho
       have Hs5:=η hs5;clear hs5
       go_upto_region 9 with (go_at_call 125; refine (reader_value s r m (b+1) σ4 v _ hs HN4.out HE8.out.rdr).mono ?_;rintro e wh ⟨he,v2,hR,hS⟩;simp only [said,Hv.out] at he;subst he;have HE9:=η (HE8.out.next hR hS);rw [←Hs5.out] at HE9;clear hR hS HE8)
       cases hb:Ent.isB 125 σ5.rest
       ·
        rw [hb,if_neg (by simp)] at ho
        have Ho2:=η ho;have Hb:=η hb;clear ho hb
        have Hl:=η (Ent.isL_len 125 σ5.rest)
        go_wp2_with (go_at_call 124; refine (reader_mustc s r _ 125 125 rfl _ hsm (by decide) HE9.out.rdr.at').mono ?_;rintro e wi ⟨he,hA,hM⟩;simp only [Hb.out,if_false,Bool.false_eq_true] at he;subst he)
        exact entry_dies ((HE9.out.mono (Nat.le_succ b)).moved (b':=b) hM hA (Nat.add_le_add_right Hl.out b)) _ rfl rfl rfl o Ho2.out.symm
       ·
        rw [hb,if_pos rfl] at ho
        have Ho2:=η ho;have Hb:=η hb;clear ho hb
        have Hl:=η (Ent.isL_len 125 σ5.rest)
        go_upto_region 10 with (go_at_call 124; refine (reader_mustc s r _ 125 125 rfl _ hsm (by decide) HE9.out.rdr.at').mono ?_;rintro e wi ⟨he,hA,hM⟩;simp only [Hb.out,if_true] at he;subst he;have HE10:=η (HE9.out.moved (b':=b+1) hM hA (Nat.add_le_add_right Hl.out (b+1)));clear hM hA HE9)
        have e3:=HE10.out.rdr.mcell
        obtain ⟨c,hc,hm10⟩:=HE10.out.rdr.names
        have hcm:c<maxLen:=by unfold maxLen;omega
        have Hm10:=η hm10;have Hc:=η hc;clear hm10 hc
        go_upto_region 11 with (at_mapUpdate;go_loud (refine wpList_smap_store rfl (.tmp 40) (.tmp 41) (.tmp 43) rfl m c _ rfl Hm10.out z t rfl hzl hcm rfl ?_);intro wj hmj hgj;have HE11:=η (HE10.out.next (HE10.out.rdr.named Hc.out hmj hgj) (step_named hgj));clear hmj hgj HE10)
        have h':=HE11.out.res
        have k0:=h'.k;have k1:=h'.y;have k2:=h'.vf;have k3:=h'.is
        have k4:wj.cell? ⟨w.heap.size+1+1,0,none⟩=_:=h'.e
        have f0:=h'.fk 0 (by decide);have f1:=h'.fk 1 (by decide);have f2:=h'.fk 2 (by decide);have f3:=h'.fi
        have f4:wj.frozen? ⟨w.heap.size+1+1,0,none⟩=false:=h'.fe
        clear h'
        go_wp2_with fail
        refine entry_leaves HE11.out _ rfl rfl rfl [] [] (.slice none 0 0) false 0 o (fun w' he hb=>?_)
        rw [←Ho2.out]
        exact ⟨_,v2,rfl,he.rdr,he.step,rfl⟩
   ·
    rw [if_neg hstr] at ho
    have hus:(u == [115,116,114,105,110,103])=false:=by
     cases h:(u == [115,116,114,105,110,103])
     ·
      rfl
     ·
      exact absurd (eq_of_beq h) hstr
    clear hstr
    unfold Ent.entryK at ho
    go_upto_region 12 with fail
    have HE6:=η (HE5.out.below ((Below.refl _ _).drew))
    clear HE5
    refine wp_region_any (by kernel_rfl) ?_
    change wpAny _ _ _ _ _ _ _ (World.drew _)
    have e4:wc.drew.cell? ⟨r,2,none⟩=some (.string ⟨u.toArray⟩):=e2
    generalize wc.drew=wd at HE6 e4 ⊢
    refine wpAny_of_held (S:=fun W=>W.cell? ⟨r,2,none⟩=some (.string ⟨u.toArray⟩)) _ _ _ _ ?_
    refine wpAnyH_take (i:=0) (v:=.pointer (some ⟨r,0,none⟩)) rfl (by kernel_rfl) (by kernel_rfl) (by kernel_rfl) (fun c a w h=>hQ_entry 45 (.pointer (some ⟨r,0,none⟩)) (by decide) c a w h) (Or.inl ⟨by kernel_rfl,fun W hW=>by kernel_rfl⟩) (by assumption) ?_
    refine wpAnyH_take (i:=1) (v:=.pointer (some ⟨r,0,none⟩)) rfl (by kernel_rfl) (by kernel_rfl) (by kernel_rfl) (fun c a w h=>hQ_entry 46 (.pointer (some ⟨r,0,none⟩)) (by decide) c a w h) (Or.inl ⟨by kernel_rfl,fun W hW=>by kernel_rfl⟩) (by assumption) ?_
    refine wpAnyH_take (i:=2) (v:=.pointer (some ⟨r,2,none⟩)) rfl (by kernel_rfl) (by kernel_rfl) (by kernel_rfl) (fun c a w h=>hQ_entry 47 (.pointer (some ⟨r,2,none⟩)) (by decide) c a w h) (Or.inl ⟨by kernel_rfl,fun W hW=>by go_simp⟩) (by assumption) ?_
    refine wpAnyH_take (i:=3) (v:=.string ⟨u.toArray⟩) rfl (by kernel_rfl) (by kernel_rfl) (by kernel_rfl) (fun c a w h=>hQ_entry 48 (.string ⟨u.toArray⟩) (by decide) c a w h) (Or.inl ⟨by kernel_rfl,fun W hW=>by go_simp⟩) (by assumption) ?_
    refine wpAnyH_take (i:=4) (v:=.pointer (some ⟨r,0,none⟩)) rfl (by kernel_rfl) (by kernel_rfl) (by kernel_rfl) (fun c a w h=>hQ_entry 49 (.pointer (some ⟨r,0,none⟩)) (by decide) c a w h) (Or.inl ⟨by kernel_rfl,fun W hW=>by kernel_rfl⟩) (by assumption) ?_
    try simp only [Act.put,π1,π2,π3,π4,π5,π6]
    refine tr 5 rfl (h:=fun K hK=>?_)
    go_simp
    clear e2 hus hk2
    cases hq:(Ent.mark σ2.rest).1 with
    | none =>
     rw [hq] at ho
     have Ho2:=η ho;have Hq:=η hq;clear ho hq
     have Hl:=η (Ent.mark_len σ2.rest)
     go_wp2_with (go_at_call 123; refine (reader_mark s r _ _ hsm HE6.out.rdr.at').mono ?_;rintro e we ⟨he,hA,hM⟩;simp only [said,Hq.out] at he;subst he)
     exact entry_dies ((HE6.out.mono (Nat.le_succ b)).moved (b':=b) hM hA (Nat.add_le_add_right Hl.out b)) _ rfl rfl rfl o Ho2.out.symm
    | some y =>
     rw [hq] at ho
     dsimp only at ho
     have Hq:=η hq;clear hq
     have Hl:=η (Ent.mark_len σ2.rest)
     obtain ⟨σ3,hs3⟩:∃σ3,σ3=σ2.at (Ent.mark σ2.rest).2:=⟨_,rfl⟩
     rw [←hs3] at ho
     have hN3:Ent.NamesOk σ3:=by rw [hs3];exact HN.out
     have hr3:σ3.rest.length<σ2.rest.length+1:=by rw [hs3];exact Nat.lt_succ_of_le Hl.out
     have Hs3:=η hs3;have HN3:=η hN3;have Hr3:=η hr3;have Ho2:=η ho
     clear hs3 hN3 HN ho hr3
     go_wp2_with (go_at_call 123; refine (reader_mark s r _ _ hsm HE6.out.rdr.at').mono ?_;rintro e we ⟨he,hA,hM⟩;simp only [said,Hq.out] at he;subst he;have HE7:=η (HE6.out.moved (b':=b+1) hM hA (Nat.add_le_add_right Hl.out (b+1)));rw [←Hs3.out] at HE7;have h':=HE7.out.res;have k0:=h'.k;have k1:=h'.y;have k2:=h'.vf;have f0:=h'.fk 0 (by decide);have f1:=h'.fk 1 (by decide);have f2:=h'.fk 2 (by decide);have e5:we.cell? ⟨r,2,none⟩=some (.string ⟨u.toArray⟩):=(hM.cell 2 (by decide)).trans e4;clear hM hA HE6 h' e4)
     refine hK.out _ _ e5 (fun _=>?_)
     clear K hK
     refine wpAnyH_take (i:=6) (v:=.agg #[.string ⟨u.toArray⟩,.string ⟨y.toArray⟩,.slice none 0 0]) rfl (by kernel_rfl) (by kernel_rfl) (by kernel_rfl) (fun c a w h=>hQ_entry 51 (.agg #[.string ⟨u.toArray⟩,.string ⟨y.toArray⟩,.slice none 0 0]) (by decide) c a w h) (Or.inl ⟨by kernel_rfl,fun W hW=>by kernel_rfl⟩) (by assumption) ?_
     try simp only [Act.put,π1,π2,π3,π4,π5,π6]
     refine tr 7 rfl (h:=fun K hK=>?_)
     go_simp
     have hne:∀i j:Nat,(⟨w.heap.size,i,none⟩:Addr)≠⟨r,j,none⟩:=fun i j h=>by have:=HE7.out.lt;injection h with h;omega
     refine hK.out _ _ ((World.cell?_setCell_other _ _ _ _ (hne _ _)).trans ((World.cell?_setCell_other _ _ _ _ (hne _ _)).trans ((World.cell?_setCell_other _ _ _ _ (hne _ _)).trans e5))) (fun _=>?_)
     clear K hK hne
     try simp only [Act.put,π1,π2,π3,π4,π5,π6]
     refine wpAnyH_done (by kernel_rfl) ?_ _
     have HE8:=η (HE7.out.wrote (died_put1 we w.heap.size u y (.slice none 0 0)) (HE7.out.res.put1 u y (.slice none 0 0)))
     change Exit.then _ _ _ _ (put1 we w.heap.size u y (.slice none 0 0))
     generalize put1 we w.heap.size u y (.slice none 0 0)=wf at HE8 ⊢
     have hbud:([]:List Ent.Fld).length+σ3.rest.length≤s.length:=by obtain ⟨c,h,_⟩:=HE8.out.rdr.names;simp;omega
     have Hbud:=η hbud
     clear k0 k1 k2 f0 f1 f2 e5 HE7 hbud
     go_wp2_with fail
     go_loopw [] (fun wr=>∃(σ4:Ent.RS) (v4 vf:Value) (fs:List Ent.Fld) (n:Nat),EIn s r m (b+1) w v σ4 u y vf false 0 wr v4∧FIn w vf fs wr v4∧Ent.NamesOk σ4∧fs.length+σ4.rest.length≤s.length∧σ4.rest.length<n∧o=wrapK u y (Ent.fieldsN n fs σ4)) (fun wr=>s.length - placeOf r wr)
     case atStart=>exact ⟨σ3,v,.slice none 0 0,[],_,HE8.out,FIn.nil _ _ _,HN3.out,Hbud.out,Hr3.out,Ho2.out.symm⟩
     case round =>
      clear HE8 Ho2 Hr3 HN3 Hs3 Hbud Hl Hq
      obtain ⟨σ4,v4,vf,fs,n,hE,hF,hN,hbud,hn,ho⟩:=hrel
      obtain ⟨n,rfl⟩:∃k,n=k+1:=⟨n - 1,by omega⟩
      obtain ⟨pv,nv,cv,rfl⟩:=hF.form
      have Hlen:=η hE.rdr.at'.len
      have HE:=η hE;have HF:=η hF;have HN:=η hN;have Hbud:=η hbud;have Hn:=η hn
      clear hE hF hN hbud hn
      unfold Ent.fieldsN at ho
      obtain ⟨l1,hl1⟩:∃l1,Ent.isL 125 σ4.rest=l1:=⟨_,rfl⟩
      have Hl1:=η (Ent.isL_len 125 σ4.rest)
      rw [hl1] at ho Hl1
      have his:=reader_isc s r _ 125 125 rfl _ hsm (by decide) HE.out.rdr.at'
      rw [hl1] at his
      cases hb1:Ent.isB 125 σ4.rest
      ·
       rw [hb1] at his ho
       rw [if_neg (by simp)] at ho
       have His:=η his;clear his hl1 hb1
       obtain ⟨l2,hl2⟩:∃l2,Ent.isL 44 l1=l2:=⟨_,rfl⟩
       have Hl2:=η (Ent.isL_len 44 l1)
       rw [hl2] at ho Hl2
       have hmu:=fun wx (hA:At s r wx l1)=>reader_mustc s r l1 44 44 rfl wx hsm (by decide) hA
       rw [hl2] at hmu
       cases hb2:Ent.isB 44 l1
       ·
        rw [hb2] at hmu ho
        rw [if_neg (by simp)] at ho
        have Hmu:=η hmu;have Ho2:=η ho;clear hmu hb2 hl2 ho
        go_wp2_with (first
         | (go_at_call 126; with_reducible refine His.out.mono ?_;rintro e wx ⟨rfl,hA,hM⟩;have HE1:=η (HE.out.moved (b':=b+1) hM hA (Nat.add_le_add_right Hl1.out (b+1)));have HF1:=η (HF.out.next HE.out (hM.step m v4));clear hA hM HE HF)
         | (go_at_call 124; refine (Hmu.out _ HE1.out.rdr.at').mono ?_;rintro e wy ⟨he,hA,hM⟩;simp only [if_false,Bool.false_eq_true] at he;subst he))
        exact entry_dies ((HE1.out.mono (Nat.le_succ b)).moved (b':=b) hM hA (Nat.add_le_add_right Hl2.out b)) _ rfl rfl rfl o Ho2.out
       ·
        rw [hb2] at hmu ho
        rw [if_pos rfl] at ho
        have Hmu:=η hmu;clear hmu hb2 hl2
        obtain ⟨l3,hl3⟩:∃l3,Ent.isL 125 l2=l3:=⟨_,rfl⟩
        have Hl3:=η (Ent.isL_len 125 l2)
        rw [hl3] at ho Hl3
        have hi2:=fun wx (hA:At s r wx l2)=>reader_isc s r l2 125 125 rfl wx hsm (by decide) hA
        rw [hl3] at hi2
        go_upto_region 15 with (first
         | (go_at_call 126; with_reducible refine His.out.mono ?_;rintro e wx ⟨rfl,hA,hM⟩;have HE1:=η (HE.out.moved (b':=b+1) hM hA (Nat.add_le_add_right Hl1.out (b+1)));have HF1:=η (HF.out.next HE.out (hM.step m v4));clear hA hM HE HF)
         | (go_at_call 124; refine (Hmu.out _ HE1.out.rdr.at').mono ?_;rintro e wy ⟨he,hA,hM⟩;simp only [if_true] at he;subst he;have HE2:=η (HE1.out.moved (b':=b+1) hM hA (Nat.add_le_add_right Hl2.out (b+1)));have HF2:=η (HF1.out.next HE1.out (hM.step m v4));clear hA hM HE1 HF1))
        clear His Hmu
        cases hb3:Ent.isB 125 l2
        ·
         rw [hb3] at hi2 ho
         rw [if_neg (by simp)] at ho
         have Hi2:=η hi2;clear hi2 hb3 hl3
         obtain ⟨σ5,hs5⟩:∃σ5,σ5=σ4.at l3:=⟨_,rfl⟩
         rw [←hs5] at ho
         have hN5:Ent.NamesOk σ5:=by rw [hs5];exact HN.out
         have hr5:σ5.rest.length≤σ4.rest.length:=by rw [hs5];show l3.length≤σ4.rest.length;have:=Hl1.out;have:=Hl2.out;have:=Hl3.out;omega
         have Hs5:=η hs5;have HN5:=η hN5;have Hr5:=η hr5;clear hs5 hN5 hr5
         go_upto_region 16 with (go_at_call 126; refine (Hi2.out _ HE2.out.rdr.at').mono ?_;rintro e wz ⟨rfl,hA,hM⟩;have HE3:=η (HE2.out.moved (b':=b+1) hM hA (Nat.add_le_add_right Hl3.out (b+1)));have HF3:=η (HF2.out.next HE2.out (hM.step m v4));clear hA hM HE2 HF2)
         have he4:EIn s r m (b+1) w v σ5 u y (.slice pv nv cv) false 0 wz v4:=by rw [Hs5.out];exact HE3.out
         have HE4:=η he4;clear he4 HE3 Hi2 Hs5 Hl1 Hl2 Hl3 HN
         cases hq:(Ent.mark σ5.rest).1 with
         | none =>
          rw [Ent.pair_bad1 σ5 hq] at ho
          have Ho2:=η ho;have Hq:=η hq;clear ho hq
          have Hl:=η (Ent.mark_len σ5.rest)
          go_wp2_with (go_at_call 123; refine (reader_mark s r _ _ hsm HE4.out.rdr.at').mono ?_;rintro e wa2 ⟨he,hA,hM⟩;simp only [said,Hq.out] at he;subst he)
          exact entry_dies ((HE4.out.mono (Nat.le_succ b)).moved (b':=b) hM hA (Nat.add_le_add_right Hl.out b)) _ rfl rfl rfl o Ho2.out
         | some nm =>
          obtain ⟨_,hlt⟩:=Ent.mark_lt σ5.rest nm hq
          have hnl:=Ent.mark_tlen σ5.rest nm hq
          have hrl:σ5.rest.length≤s.length:=by obtain ⟨c,h,_⟩:=HE4.out.rdr.names;omega
          have hnl2:nm.length≤maxLen:=by unfold maxLen;omega
          obtain ⟨z,hz⟩:∃z,Ent.small nm=z:=⟨_,rfl⟩
          have hbud:(Ent.mark σ5.rest).2.length+(b+2)≤σ5.rest.length+(b+1):=by omega
          have Hq:=η hq;have Hz:=η hz;have Hbud2:=η hbud;have Hlt:=η hlt
          clear hz hnl hrl hbud hlt
          go_upto_region 17 with (first
           | (go_at_call 123; refine (reader_mark s r _ _ hsm HE4.out.rdr.at').mono ?_;rintro e wa2 ⟨he,hA,hM⟩;simp only [said,Hq.out] at he;subst he;have HE5:=η (HE4.out.moved (b':=b+2) hM hA Hbud2.out);have HF5:=η (HF3.out.next HE4.out (hM.step m v4));clear hM hA HE4 HF3)
           | (go_at_call 122; refine (entry_small nm _ hnl2).mono ?_;rintro e wb2 ⟨rfl,hb⟩;have HE6:=η (HE5.out.below hb);have HF6:=η (HF5.out.below hb);clear hb HE5 HF5;rw [Hz.out]))
          obtain ⟨σ6,hs6⟩:∃σ6,σ6=σ5.at (Ent.mark σ5.rest).2:=⟨_,rfl⟩
          rw [←hs6] at HE6
          have hr6:σ6.rest=(Ent.mark σ5.rest).2:=by rw [hs6];rfl
          have hat:∀l,σ5.at l=σ6.at l:=fun l=>by rw [hs6];rfl
          have hN6:Ent.NamesOk σ6:=by rw [hs6];exact HN5.out
          cases hb:Ent.isB 61 σ6.rest
          ·
           rw [Ent.pair_bad2 σ5 nm hq (by rw [←hr6];exact hb),←hr6,hat] at ho
           have Ho2:=η ho;have Hb:=η hb;clear ho hq hb hs6 hr6 hat
           have Hl:=η (Ent.isL_len 61 σ6.rest)
           go_wp2_with (go_at_call 124; refine (reader_mustc s r _ 61 61 rfl _ hsm (by decide) HE6.out.rdr.at').mono ?_;rintro e wc2 ⟨he,hA,hM⟩;simp only [Hb.out,if_false,Bool.false_eq_true] at he;subst he)
           exact entry_dies ((HE6.out.mono (Nat.le_add_right b 2)).moved (b':=b) hM hA (Nat.add_le_add_right Hl.out b)) _ rfl rfl rfl o Ho2.out
          ·
           have Hb:=η hb
           have Hl:=η (Ent.isL_len 61 σ6.rest)
           obtain ⟨σ7,hs7⟩:∃σ7,σ7=σ6.at (Ent.isL 61 σ6.rest):=⟨_,rfl⟩
           have hp7:σ5.at (Ent.isL 61 (Ent.mark σ5.rest).2)=σ7:=by rw [hs7,hr6.symm,hat]
           have hN7:Ent.NamesOk σ7:=by rw [hs7];exact hN6
           have hr7:σ7.rest.length<σ5.rest.length:=by
            rw [hs7];show (Ent.isL 61 σ6.rest).length<_
            have h1:=Hl.out;have h2:=Hlt.out
            rw [hr6] at h1 ⊢;omega
           have Hs7:=η hs7;have HN7:=η hN7;have Hr7:=η hr7
           have hb2:Ent.isB 61 (Ent.mark σ5.rest).2=true:=by rw [←hr6];exact hb
           clear hs7 hN7 hs6 hr6 hat hN6 hb HN5 hr7
           go_upto_region 18 with (go_at_call 124; refine (reader_mustc s r _ 61 61 rfl _ hsm (by decide) HE6.out.rdr.at').mono ?_;rintro e wc2 ⟨he,hA,hM⟩;simp only [Hb.out,if_true] at he;subst he;have HE7:=η (HE6.out.moved (b':=b+2) hM hA (Nat.add_le_add_right Hl.out (b+2)));rw [←Hs7.out] at HE7;have HF7:=η (HF6.out.next HE6.out (hM.step m v4));clear hM hA HE6 HF6)
           clear Hl Hb Hs7
           cases hv:(Ent.value σ7).1 with
           | none =>
            rw [Ent.pair_bad3 σ5 nm hq hb2 (by rw [hp7];exact hv),hp7] at ho
            have Ho2:=η ho;have Hv:=η hv;clear ho hq hv hp7 hb2
            go_wp2_with (go_at_call 125; refine (reader_value s r m (b+2) σ7 v4 _ hs HN7.out HE7.out.rdr).mono ?_;rintro e wd2 ⟨he,v5,hR,hS⟩;simp only [said,Hv.out] at he;subst he)
            exact entry_dies ((HE7.out.next hR hS).mono (Nat.le_add_right b 2)) _ rfl rfl rfl o Ho2.out
           | some t =>
            rw [Ent.pair_ok σ5 nm t hq hb2 (by rw [hp7];exact hv),hp7] at ho
            dsimp only at ho
            rw [Hz.out] at ho
            have Hv:=η hv;clear hq hv hp7 hb2
            obtain ⟨σ8,hs8⟩:∃σ8,σ8=(Ent.value σ7).2:=⟨_,rfl⟩
            rw [←hs8] at ho
            have Hs8:=η hs8;clear hs8
            have hN8:Ent.NamesOk σ8:=by rw [Hs8.out];unfold Ent.NamesOk;rw [Ent.value_names];exact HN7.out
            have hr8:σ8.rest.length<σ4.rest.length:=by
             have h1:=Ent.value_len σ7;rw [←Hs8.out] at h1
             have h2:=Hr7.out;have h3:=Hr5.out;omega
            have HN8:=η hN8;have Hr8:=η hr8;clear hN8 hr8
            cases hhas:(Ent.get fs z).2
            ·
             rw [hhas,if_neg (by simp)] at ho
             have Ho2:=η ho;have Hhas:=η hhas;clear ho hhas
             obtain ⟨i0,hi,hz0,hz1,hz2⟩:=info_parts field_info
             have Hi:=η hi;have Hz0:=η hz0;have Hz1:=η hz1;have Hz2:=η hz2
             have hcnt:fs.length≤1000000000:=by have:=Hbud.out;omega
             clear hi hz0 hz1 hz2
             go_upto_region 22 with (first
              | (go_at_call 125; refine (reader_value s r m (b+2) σ7 v4 _ hs HN7.out HE7.out.rdr).mono ?_;rintro e wd2 ⟨he,v5,hR,hS⟩;simp only [said,Hv.out] at he;subst he;have HE8:=η (HE7.out.next hR hS);rw [←Hs8.out] at HE8;have HF8:=η (HF7.out.next HE7.out hS);have k0:=HE8.out.res.k;have k1:=HE8.out.res.y;have k2:=HE8.out.res.vf;clear hR hS HE7 HF7)
              | (go_at_call 127; refine (entry_get fs _ _ _ z _ _ HF8.out.slice).mono ?_;rintro e we2 ⟨rfl,hb⟩;have HE9:=η (HE8.out.below hb);have HF9:=η (HF8.out.below hb);clear hb HE8 HF8 k0 k1 k2;rw [Hhas.out]))
             obtain ⟨fl,hown,hrep⟩:=HF9.out.row
             have hbase:w.heap.size≤we2.heap.size:=by have:=HE9.out.res.lt;omega
             have Hown:=η hown;have Hrep:=η hrep;clear hown hrep
             have k2:=HE9.out.res.vf
             go_wp2_with (at_builtin;go_loud (refine wpList_append1 rfl (.tmp 77) (.tmp 81) 58 rfl w.heap.size 218 i0 (.agg #[.string ⟨#[]⟩,.string ⟨#[]⟩]) 2 32 Tryz.underlying58 Hi.out Hz0.out Hz1.out Hz2.out (by rfl) (by decide) _ _ _ Hown.out rfl [.string ⟨z.toArray⟩,.string ⟨t.toArray⟩] rfl (by simp) rfl (by simp [Value.oneCell']) (by unfold maxLen;omega) (by omega) hbase ?_);intro v6 w6 own6 g6 at6;obtain ⟨p6,cap6,rfl,hp6,hq6⟩:=own6.form (Nat.succ_pos _);have HE10:=η (HE9.out.appended HF9.out g6);have HF10:=η (FIn.appended (f:=⟨z,t⟩) HE9.out HF9.out Hrep.out own6 at6);clear own6 g6 at6;have k6:=HE10.out.res.vf;have f6:=HE10.out.res.fk 2 (by decide))
             have he:=(HE10.out.wrote (died_put2 w6 w.heap.size (.slice (some ⟨p6,0,none⟩) (fs.length+1) cap6)) (HE10.out.res.put2 (.slice (some ⟨p6,0,none⟩) (fs.length+1) cap6))).mono (Nat.le_succ (b+1))
             have hf:=HF10.out.died (died_put2 w6 w.heap.size (.slice (some ⟨p6,0,none⟩) (fs.length+1) cap6))
             have h1:=Hr8.out;have h2:=Hbud.out;have h3:=Hn.out
             refine ⟨⟨σ8,v5,_,fs++[⟨z,t⟩],n,he,hf,HN8.out,by rw [List.length_append];simp;omega,by omega,Ho2.out⟩,?_⟩
             rw [he.rdr.at'.len,Hlen.out]
             exact h1
            ·
             rw [hhas,if_pos rfl] at ho
             have Ho2:=η ho;have Hhas:=η hhas;clear ho hhas
             go_wp2_with (first
              | (go_at_call 125; refine (reader_value s r m (b+2) σ7 v4 _ hs HN7.out HE7.out.rdr).mono ?_;rintro e wd2 ⟨he,v5,hR,hS⟩;simp only [said,Hv.out] at he;subst he;have HE8:=η (HE7.out.next hR hS);rw [←Hs8.out] at HE8;have HF8:=η (HF7.out.next HE7.out hS);have k0:=HE8.out.res.k;have k1:=HE8.out.res.y;have k2:=HE8.out.res.vf;clear hR hS HE7 HF7)
              | (go_at_call 127; refine (entry_get fs _ _ _ z _ _ HF8.out.slice).mono ?_;rintro e we2 ⟨rfl,hb⟩;have HE9:=η (HE8.out.below hb);have HF9:=η (HF8.out.below hb);clear hb HE8 HF8 k0 k1 k2;rw [Hhas.out])
              | (go_at_call 68; refine (reader_note s r m (b+1) σ8 _ _ 12 z hs HE9.out.rdr).mono ?_;rintro e wf2 ⟨rfl,v6,hR,hS⟩;have HE10:=η (HE9.out.next hR hS);have HF10:=η (HF9.out.next HE9.out hS);clear hR hS HE9 HF9))
             have h1:=Hr8.out;have h2:=Hbud.out;have h3:=Hn.out
             refine ⟨⟨σ8.note 12 z,v6,_,fs,n,HE10.out,HF10.out,HN8.out,?_,?_,Ho2.out⟩,?_⟩
             ·
              show fs.length+σ8.rest.length≤s.length;omega
             ·
              show σ8.rest.length<n;omega
             ·
              rw [HE10.out.rdr.at'.len,Hlen.out]
              exact h1
        ·
         rw [hb3] at hi2 ho
         rw [if_pos rfl] at ho
         have Hi2:=η hi2;have Ho2:=η ho;clear hi2 ho hb3 hl3
         go_wp2_with (go_at_call 126; refine (Hi2.out _ HE2.out.rdr.at').mono ?_;rintro e wz ⟨rfl,hA,hM⟩;have HE3:=η (HE2.out.moved (b':=b+1) hM hA (Nat.add_le_add_right Hl3.out (b+1)));have HF3:=η (HF2.out.next HE2.out (hM.step m v4));have h':=HE3.out.res;have k0:=h'.k;have k1:=h'.y;have k2:=h'.vf;have k3:=h'.is;have k4:wz.cell? ⟨w.heap.size+1+1,0,none⟩=some (.int .i64 0):=h'.e;have f0:=h'.fk 0 (by decide);have f1:=h'.fk 1 (by decide);have f2:=h'.fk 2 (by decide);have f3:=h'.fi;have f4:wz.frozen? ⟨w.heap.size+1+1,0,none⟩=false:=h'.fe;clear hA hM h' HE2 HF2)
         exact entry_done (HE3.out.mono (Nat.le_succ b)) HF3.out _ rfl rfl rfl o Ho2.out
      ·
       rw [hb1] at his ho
       rw [if_pos rfl] at ho
       have His:=η his;have Ho2:=η ho;clear his hl1 hb1 ho
       go_wp2_with (go_at_call 126; refine His.out.mono ?_;rintro e wx ⟨rfl,hA,hM⟩;have HE2:=η (HE.out.moved (b':=b+1) hM hA (Nat.add_le_add_right Hl1.out (b+1)));have HF2:=η (HF.out.next HE.out (hM.step m v4));have h':=HE2.out.res;have k0:=h'.k;have k1:=h'.y;have k2:=h'.vf;have k3:=h'.is;have k4:wx.cell? ⟨w.heap.size+1+1,0,none⟩=some (.int .i64 0):=h'.e;have f0:=h'.fk 0 (by decide);have f1:=h'.fk 1 (by decide);have f2:=h'.fk 2 (by decide);have f3:=h'.fi;have f4:wx.frozen? ⟨w.heap.size+1+1,0,none⟩=false:=h'.fe;clear hA hM h' HE HF)
       exact entry_done (HE2.out.mono (Nat.le_succ b)) HF2.out _ rfl rfl rfl o Ho2.out
end Go.Proofs.YtgnfmopcialllaaGreatDoor
set_option linter.unusedSimpArgs false
set_option linter.unusedVariables false
namespace Go.Proofs.YtgnfmopcialllaaGreatDoor
open Go.RowKit
namespace Ent
theorem valueN_tlen:∀(n:Nat) (acc:List UInt8) (σ:RS) (t:List UInt8),(valueN n acc σ).1=some t→t.length≤1000
 | 0,_,_,_,h=>by simp [valueN] at h
 | n+1,acc,σ,t,h=>by
  unfold valueN at h
  split at h
  ·
   cases h
  ·
   split at h
   ·
    exact valueN_tlen n _ _ t h
   ·
    cases h;simp;omega
theorem value_tlen (σ:RS) (t:List UInt8) (h:(value σ).1=some t):t.length≤1000:=valueN_tlen _ _ _ t h
theorem pair_names (σ:RS):(pair σ).2.names=σ.names:=by
 unfold pair markS
 dsimp only
 split
 ·
  rfl
 ·
  split
  ·
   split <;> exact value_names _
  ·
   rfl
theorem pair_len (σ:RS):(pair σ).2.rest.length≤σ.rest.length:=by
 have h1:=mark_len σ.rest
 have h2:=isL_len 61 (mark σ.rest).2
 have h3:=value_len ((σ.at (mark σ.rest).2).at (isL 61 (σ.at (mark σ.rest).2).rest))
 have h4:((σ.at (mark σ.rest).2).at (isL 61 (σ.at (mark σ.rest).2).rest)).rest.length≤σ.rest.length:=Nat.le_trans h2 h1
 unfold pair markS
 dsimp only
 split
 ·
  exact h1
 ·
  split
  ·
   split <;> exact Nat.le_trans h3 h4
  ·
   exact h4
theorem pair_tlen (σ:RS) (m t:List UInt8) (h:(pair σ).1=some (m,t)):t.length≤1000:=by
 unfold pair at h
 split at h
 ·
  cases h
 ·
  split at h
  ·
   split at h
   ·
    cases h
   ·
    rename_i t2 h2
    cases h
    exact value_tlen _ _ h2
  ·
   cases h
theorem fieldsN_names:∀(n:Nat) (fs:List Fld) (σ:RS),(fieldsN n fs σ).2.names=σ.names
 | 0,_,_=>rfl
 | n+1,fs,σ=>by
  have h1:=pair_names (σ.at (isL 125 (isL 44 (isL 125 σ.rest))))
  unfold fieldsN
  split
  ·
   rfl
  ·
   split
   ·
    split
    ·
     rfl
    ·
     split
     ·
      exact h1
     ·
      split
      ·
       rw [fieldsN_names n];exact h1
      ·
       rw [fieldsN_names n];exact h1
   ·
    rfl
theorem fieldsN_len:∀(n:Nat) (fs:List Fld) (σ:RS),(fieldsN n fs σ).2.rest.length≤σ.rest.length
 | 0,_,_=>Nat.le_refl _
 | n+1,fs,σ=>by
  have a1:=isL_len 125 σ.rest
  have a2:=isL_len 44 (isL 125 σ.rest)
  have a3:=isL_len 125 (isL 44 (isL 125 σ.rest))
  have h1:(pair (σ.at (isL 125 (isL 44 (isL 125 σ.rest))))).2.rest.length≤σ.rest.length:=by
   have h2:(pair (σ.at (isL 125 (isL 44 (isL 125 σ.rest))))).2.rest.length≤(isL 125 (isL 44 (isL 125 σ.rest))).length:=pair_len _
   omega
  unfold fieldsN
  split
  ·
   exact a1
  ·
   split
   ·
    split
    ·
     show (isL 125 (isL 44 (isL 125 σ.rest))).length≤_;omega
    ·
     split
     ·
      exact h1
     ·
      split
      ·
       exact Nat.le_trans (fieldsN_len n _ _) h1
      ·
       exact Nat.le_trans (fieldsN_len n _ _) h1
   ·
    show (isL 44 (isL 125 σ.rest)).length≤_;omega
theorem entry_len (σ:RS):(entry σ).2.rest.length≤σ.rest.length:=by
 have h1:=mark_len σ.rest
 unfold entry
 split
 ·
  exact h1
 ·
  rename_i k _
  unfold entryB
  dsimp only
  have h2:=isL_len 123 (mark σ.rest).2
  split
  ·
   split
   ·
    unfold entryS
    have h3:(pair (({ σ with rest:=(mark σ.rest).2,kind:=small k }:RS).at (isL 123 (mark σ.rest).2))).2.rest.length≤(isL 123 (mark σ.rest).2).length:=pair_len _
    split
    ·
     dsimp only;omega
    ·
     have h4:=isL_len 125 (pair (({ σ with rest:=(mark σ.rest).2,kind:=small k }:RS).at (isL 123 (mark σ.rest).2))).2.rest
     split
     ·
      show (isL 125 _).length≤_;omega
     ·
      show (isL 125 _).length≤_;omega
   ·
    unfold entryK
    have h3:(mark (isL 123 (mark σ.rest).2)).2.length≤(isL 123 (mark σ.rest).2).length:=mark_len _
    split
    ·
     show (mark (isL 123 (mark σ.rest).2)).2.length≤_;omega
    ·
     have h4:=fieldsN_len ((({ σ with rest:=(mark σ.rest).2,kind:=small k }:RS).at (isL 123 (mark σ.rest).2)).rest.length+1) [] ((({ σ with rest:=(mark σ.rest).2,kind:=small k }:RS).at (isL 123 (mark σ.rest).2)).at (mark (isL 123 (mark σ.rest).2)).2)
     have h5:((({ σ with rest:=(mark σ.rest).2,kind:=small k }:RS).at (isL 123 (mark σ.rest).2)).at (mark (isL 123 (mark σ.rest).2)).2).rest.length≤σ.rest.length:=by show (mark (isL 123 (mark σ.rest).2)).2.length≤_;omega
     split <;> exact Nat.le_trans h4 h5
  ·
   show (isL 123 (mark σ.rest).2).length≤_;omega
theorem entry_names (σ:RS) (h:NamesOk σ):NamesOk (entry σ).2:=by
 unfold entry
 split
 ·
  exact h
 ·
  rename_i k _
  unfold entryB
  dsimp only
  split
  ·
   split
   ·
    unfold entryS
    have h3:=pair_names (({ σ with rest:=(mark σ.rest).2,kind:=small k }:RS).at (isL 123 (mark σ.rest).2))
    split
    ·
     unfold NamesOk;rw [h3];exact h
    ·
     rename_i m t hp
     have h4:=pair_tlen _ m t hp
     split
     ·
      intro x t2 hx
      dsimp only at hx
      split at hx
      ·
       cases hx;exact h4
      ·
       rw [h3] at hx;exact h x t2 hx
     ·
      unfold NamesOk
      show ∀x t,(pair _).2.names x=some t→_
      rw [h3];exact h
   ·
    unfold entryK
    split
    ·
     exact h
    ·
     split
     ·
      unfold NamesOk;dsimp only;rw [fieldsN_names];exact h
     ·
      unfold NamesOk;dsimp only;rw [fieldsN_names];exact h
  ·
   exact h
theorem entry_keylen (σ:RS) (x:Ent) (h:(entry σ).1=some (some x)):x.key.length≤σ.rest.length:=by
 have h1:=mark_len σ.rest
 unfold entry at h
 split at h
 ·
  cases h
 ·
  unfold entryB at h
  dsimp only at h
  have h2:=isL_len 123 (mark σ.rest).2
  split at h
  ·
   split at h
   ·
    unfold entryS at h
    split at h
    ·
     cases h
    ·
     split at h <;> cases h
   ·
    unfold entryK at h
    split at h
    ·
     cases h
    ·
     rename_i y hy
     have h3:y.length≤(isL 123 (mark σ.rest).2).length:=mark_tlen _ y hy
     split at h
     ·
      cases h
     ·
      injection h with h
      injection h with h
      rw [←h]
      show y.length≤_
      omega
  ·
   cases h
end Ent
end Go.Proofs.YtgnfmopcialllaaGreatDoor
