/- errors.As at the target *bib.fault: over nil, and over a fault (the first link hits). The walks of package name, fourth part: Split, vonLast. The walks of package name, fifth part: vonLast, Split at commas, a Person's cells. -/
import Derived.Test.YtgnfmopcialllaaGreatDoorChecked
import Derived.Test.YtgnfmopcialllaaGreatDoorShelf
import Derived.Test.YtgnfmopcialllaaGreatDoorG09
import Derived.WalkKit
import Derived.LaidEql
import Derived.Stop.Asserts
import Derived.RowKitTokens
import Derived.Test.YtgnfmopcialllaaGreatDoorTk
import Derived.StillTailTactics
set_option linter.unusedSimpArgs false
set_option linter.unusedVariables false
namespace Go.Proofs.YtgnfmopcialllaaGreatDoor
open Go.RowKit Go.Extern.Stop Go.Stop Go.Extern
namespace asF
theorem valueOfP (t:Addr) (w:World):(ReflectliteValue.unpack (.iface 98 (.pointer (some t)))).run Tryz.prog w
  = .ok (.agg #[.pointer (some ⟨9, 98, none⟩),.pointer (some ⟨w.heap.size,0,none⟩),.int .u64 150]) (w.alloc (.cells #[.pointer (some t)] 98)):=by kernel_rfl
theorem typeP (a:Addr) (w:World):(ReflectliteValue.methodAny (ReflectliteValue.valueError "reflectlite.Value.Type" 0) (fun t _ _ _=>ReflectliteType.toType t) #[.agg #[.pointer (some ⟨9, 98, none⟩),.pointer (some a),.int .u64 150]]).run Tryz.prog w
  = .ok (.iface 199 (.agg #[.pointer (some ⟨9, 98, none⟩)])) w:=by kernel_rfl
theorem kindP (w:World):((ReflectliteType.abiMethod fun t=>(fun a:Nat=>Value.int IntKind.u8 (a:Int)) <$> Rtype.kind t) #[.pointer (some ⟨9, 98, none⟩)]).run Tryz.prog w = .ok (.int .u8 22) w:=by kernel_rfl
theorem kindE (w:World):((ReflectliteType.abiMethod fun t=>(fun a:Nat=>Value.int IntKind.u8 (a:Int)) <$> Rtype.kind t) #[.pointer (some ⟨9, 66, none⟩)]).run Tryz.prog w = .ok (.int .u8 25) w:=by kernel_rfl
theorem partsP (a:Addr) (w:World):(ReflectliteValue.parts (.agg #[.pointer (some ⟨9, 98, none⟩),.pointer (some a),.int .u64 150])).run Tryz.prog w = .ok (some (98, a,150)) w:=by kernel_rfl
theorem isNilP (a p:Addr) (W:World) (ha:W.cell? a=some (.pointer (some p))) :
  (ReflectliteValue.method (ReflectliteValue.valueError "reflectlite.Value.IsNil" 0) ReflectliteValue.isNil #[.agg #[.pointer (some ⟨9, 98, none⟩),.pointer (some a),.int .u64 150]]).run Tryz.prog W = .ok (.bool false) W:=by
 rw [asErr.rlm]
 simp only [Sem.run_bind,partsP,Result.andThen]
 simp [ReflectliteValue.isNil,loadVar,isAgg,underlying,Tryz.underlying98, ha,Result.andThen]
theorem elemP (w:World):(ReflectliteType.method ReflectliteType.elem #[.agg #[.pointer (some ⟨9, 98, none⟩)]]).run Tryz.prog w = .ok (.iface 199 (.agg #[.pointer (some ⟨9, 66, none⟩)])) w:=by kernel_rfl
theorem implementsE (w:World):(ReflectliteType.relation "Implements" ReflectliteType.implements_ #[.agg #[.pointer (some ⟨9, 66, none⟩)],.iface 199 (.agg #[.pointer (some ⟨9, 48, none⟩)])]).run Tryz.prog w = .ok (.bool true) w:=by kernel_rfl
theorem typeOfE (v:Value) (w:World):(ReflectliteType.typeOf #[.iface 66 v]).run Tryz.prog w = .ok (.iface 199 (.agg #[.pointer (some ⟨9, 66, none⟩)])) w:=by kernel_rfl
theorem assignE (w:World):(ReflectliteType.relation "AssignableTo" ReflectliteType.assignableTo #[.agg #[.pointer (some ⟨9, 66, none⟩)],.iface 199 (.agg #[.pointer (some ⟨9, 66, none⟩)])]).run Tryz.prog w = .ok (.bool true) w:=by kernel_rfl
theorem valueOfE (s:ByteArray) (n:Int) (w:World):(ReflectliteValue.unpack (.iface 66 (.agg #[.string s,.int .i64 n]))).run Tryz.prog w
  = .ok (.agg #[.pointer (some ⟨9, 66, none⟩),.pointer (some ⟨w.heap.size,0,none⟩),.int .u64 153]) (w.alloc (.cells #[.string s,.int .i64 n] 66)):=by kernel_rfl
theorem elemOfP (w:World):(Rtype.elem? 98).run Tryz.prog w = .ok (some 66) w:=by kernel_rfl
theorem mkE (p:Addr) (w:World):(ReflectliteValue.mk 66 p ReflectliteValue.flagAddr).run Tryz.prog w = .ok (.agg #[.pointer (some ⟨9, 66, none⟩),.pointer (some p),.int .u64 409]) w:=by kernel_rfl
theorem elemVP (a p:Addr) (W:World) (ha:W.cell? a=some (.pointer (some p))) :
  (ReflectliteValue.method (ReflectliteValue.valueError "reflectlite.Value.Elem" 0) ReflectliteValue.elem #[.agg #[.pointer (some ⟨9, 98, none⟩),.pointer (some a),.int .u64 150]]).run Tryz.prog W
   = .ok (.agg #[.pointer (some ⟨9, 66, none⟩),.pointer (some p),.int .u64 409]) W:=by
 rw [asErr.rlm]
 simp only [Sem.run_bind,partsP,Result.andThen]
 simp [ReflectliteValue.elem,loadVar,isAgg,underlying,Tryz.underlying98, ha,Result.andThen,elemOfP,mkE]
theorem partsEa (a:Addr) (w:World):(ReflectliteValue.parts (.agg #[.pointer (some ⟨9, 66, none⟩),.pointer (some a),.int .u64 409])).run Tryz.prog w = .ok (some (66, a,409)) w:=by kernel_rfl
theorem partsE (a:Addr) (w:World):(ReflectliteValue.parts (.agg #[.pointer (some ⟨9, 66, none⟩),.pointer (some a),.int .u64 153])).run Tryz.prog w = .ok (some (66, a,153)) w:=by kernel_rfl
theorem directE (w:World):(Rtype.directlyAssignable 66 66).run Tryz.prog w = .ok true w:=by kernel_rfl
theorem setE (g b:Nat) (s:ByteArray) (n:Int) (os on:Value) (W:World) (hb0:W.cell? ⟨b,0,none⟩=some (.string s)) (hb1:W.cell? ⟨b,1,none⟩=some (.int .i64 n)) (ht0:W.cell? ⟨g,0,none⟩=some os) (ht1:W.cell? ⟨g,1,none⟩=some on) (hf0:W.frozen? ⟨g,0,none⟩=false) (hf1:W.frozen? ⟨g,1,none⟩=false) :
  (ReflectliteValue.set #[.agg #[.pointer (some ⟨9, 66, none⟩),.pointer (some ⟨g,0,none⟩),.int .u64 409],.agg #[.pointer (some ⟨9, 66, none⟩),.pointer (some ⟨b,0,none⟩),.int .u64 153]]).run Tryz.prog W
   = .ok (.tuple #[]) ((W.setCell ⟨g,0,none⟩ (.string s)).setCell ⟨g,1,none⟩ (.int .i64 n)):=by
 rw [asErr.rls]
 simp only [Sem.run_bind,partsEa,partsE,Result.andThen]
 have hl:(loadVar 66 ⟨b,0,none⟩).run Tryz.prog W = .ok (.agg #[.string s,.int .i64 n]) W:=by
  go_simp
 have hs:(storeVar 66 ⟨g,0,none⟩ (.agg #[.string s,.int .i64 n])).run Tryz.prog W = .ok () ((W.setCell ⟨g,0,none⟩ (.string s)).setCell ⟨g,1,none⟩ (.int .i64 n)):=by
  go_simp
 simp [ReflectliteValue.flagAddr,hl,hs,Result.andThen,directE]
end asF
theorem std_asF_nil (t:Addr) (w:World):Calls Tryz.prog 34 #[.nilIface,.iface 98 (.pointer (some t))] w fun ev w'=>ev = .returned (.bool false)∧w'=w:=by
 go_enter Tryz.func34, Tryz.ntmps34
 go_wp2_with fail
 go_ret
 exact ⟨rfl,rfl⟩
set_option maxRecDepth 100000 in
set_option maxHeartbeats 4000000 in
theorem std_asF_loop (gt:Nat) (s:ByteArray) (n:Int) (os on:Value) (a:Addr) (w:World) (ha:w.cell? a=some (.pointer (some ⟨gt,0,none⟩))) (ht0:w.cell? ⟨gt,0,none⟩=some os) (ht1:w.cell? ⟨gt,1,none⟩=some on) (hf0:w.frozen? ⟨gt,0,none⟩=false) (hf1:w.frozen? ⟨gt,1,none⟩=false) :
  Calls Tryz.prog 66 #[.iface 66 (.agg #[.string s,.int .i64 n]),.iface 98 (.pointer (some ⟨gt,0,none⟩)),.agg #[.pointer (some ⟨9, 98, none⟩),.pointer (some a),.int .u64 150],.iface 199 (.agg #[.pointer (some ⟨9, 66, none⟩)])] w
   fun ev w'=>ev = .returned (.bool true)∧∃W,w'=(W.setCell ⟨gt,0,none⟩ (.string s)).setCell ⟨gt,1,none⟩ (.int .i64 n)∧Below w.heap.size w W:=by
 have h10:=@run_callFunc_extern Tryz.prog 118 _ ReflectliteType.typeOf Tryz.func118 (by kernel_rfl) (by kernel_rfl) (by kernel_rfl) (by kernel_rfl)
 have h35:=@run_callFunc_extern Tryz.prog 292 _ (ReflectliteType.relation "AssignableTo" ReflectliteType.assignableTo) Tryz.func292 (by kernel_rfl) (by kernel_rfl) (by kernel_rfl) (by kernel_rfl)
 have h6:=@run_callFunc_extern Tryz.prog 63 _ (fun args=>ReflectliteValue.unpack (args.getD 0 (.tuple #[]))) Tryz.func63 (by kernel_rfl) (by kernel_rfl) (by kernel_rfl) (by kernel_rfl)
 have h11:=@run_callFunc_extern Tryz.prog 119 _ (ReflectliteValue.method (ReflectliteValue.valueError "reflectlite.Value.Elem" 0) ReflectliteValue.elem) Tryz.func119 (by kernel_rfl) (by kernel_rfl) (by kernel_rfl) (by kernel_rfl)
 have h12:=@run_callFunc_extern Tryz.prog 120 _ ReflectliteValue.set Tryz.func120 (by kernel_rfl) (by kernel_rfl) (by kernel_rfl) (by kernel_rfl)
 have tE:=asF.typeOfE
 have mA:=asErr.methodAssignableTo
 have aE:=asF.assignE
 have vE:=asF.valueOfE s n
 obtain ⟨W1,hW1⟩:∃W1,W1=w.alloc (.cells #[.pointer (some ⟨9, 98, none⟩),.pointer (some a),.int .u64 150] 141):=⟨_,rfl⟩
 have hb1:Below w.heap.size w W1:=by rw [hW1];exact below_new w _
 have hal:a.block<w.heap.size:=World.block_lt_of_cell? w _ ha
 have htl:gt<w.heap.size:=World.block_lt_of_cell? w _ ht0
 have ha1:W1.cell? a=some (.pointer (some ⟨gt,0,none⟩)):=(hb1.cell hal).trans ha
 have hx1:∀(i:Nat) (u:Value),#[Value.pointer (some ⟨9, 98, none⟩),.pointer (some a),.int .u64 150][i]? = some u→W1.cell? ⟨w.heap.size,i,none⟩=some u:=by
  intro i u hu
  rw [hW1,cell_of_row _ _ _ _ _ _ (heap_alloc_new w _)]
  exact hu
 have el:=asF.elemVP a ⟨gt,0,none⟩ W1 ha1
 obtain ⟨W2,hW2⟩:∃W2,W2=W1.alloc (.cells #[.string s,.int .i64 n] 66):=⟨_,rfl⟩
 have hb2:Below w.heap.size w W2:=by rw [hW2];exact hb1.alloc hb1.size _
 have fr:∀i,W2.frozen? ⟨gt,i,none⟩=w.frozen? ⟨gt,i,none⟩:=fun i=>by
  rw [hW2,World.frozen?_alloc_old _ _ ⟨gt,i,none⟩ (Nat.ne_of_lt (Nat.lt_of_lt_of_le htl hb1.size)),hW1,World.frozen?_alloc_old _ _ ⟨gt,i,none⟩ (Nat.ne_of_lt htl)]
 have st:=asF.setE gt W1.heap.size s n os on W2 (by rw [hW2,cell_of_row _ _ _ _ _ _ (heap_alloc_new W1 _)];rfl) (by rw [hW2,cell_of_row _ _ _ _ _ _ (heap_alloc_new W1 _)];rfl)
  ((hb2.cell (p:=⟨gt,0,none⟩) htl).trans ht0) ((hb2.cell (p:=⟨gt,1,none⟩) htl).trans ht1) (by rw [fr];exact hf0) (by rw [fr];exact hf1)
 go_enter Tryz.func66, Tryz.ntmps66
 go_upto_region 1 with fail
 rw [←hW1]
 have hx0:=hx1 0 _ rfl;have hx2:=hx1 1 _ rfl;have hx3:=hx1 2 _ rfl
 subst hW2
 clear hx1 ha ht0 ht1 hf0 hf1 hW1 fr
 refine wp_loop_rounds 1 ?_
 rw [rounds_succ]
 go_wp2_with fail
 go_ret
 exact ⟨rfl,_,rfl,hb2⟩
set_option maxRecDepth 100000 in
set_option maxHeartbeats 4000000 in
theorem std_asF (gt:Nat) (s:ByteArray) (n:Int) (os on:Value) (w:World) (hg:w.cell? ⟨0, 0,none⟩=some (.iface 199 (.agg #[.pointer (some ⟨9, 48, none⟩)]))) (ht0:w.cell? ⟨gt,0,none⟩=some os) (ht1:w.cell? ⟨gt,1,none⟩=some on) (hf0:w.frozen? ⟨gt,0,none⟩=false) (hf1:w.frozen? ⟨gt,1,none⟩=false) :
  Calls Tryz.prog 34 #[.iface 66 (.agg #[.string s,.int .i64 n]),.iface 98 (.pointer (some ⟨gt,0,none⟩))] w fun ev w'=>ev = .returned (.bool true)∧∃W,w'=(W.setCell ⟨gt,0,none⟩ (.string s)).setCell ⟨gt,1,none⟩ (.int .i64 n)∧Below w.heap.size w W:=by
 have h6:=@run_callFunc_extern Tryz.prog 63 _ (fun args=>ReflectliteValue.unpack (args.getD 0 (.tuple #[]))) Tryz.func63 (by kernel_rfl) (by kernel_rfl) (by kernel_rfl) (by kernel_rfl)
 have h7:=@run_callFunc_extern Tryz.prog 64 _ (ReflectliteValue.methodAny (ReflectliteValue.valueError "reflectlite.Value.Type" 0) (fun t _ _ _=>ReflectliteType.toType t)) Tryz.func64 (by kernel_rfl) (by kernel_rfl) (by kernel_rfl) (by kernel_rfl)
 have h8:=@run_callFunc_extern Tryz.prog 65 _ (ReflectliteValue.method (ReflectliteValue.valueError "reflectlite.Value.IsNil" 0) ReflectliteValue.isNil) Tryz.func65 (by kernel_rfl) (by kernel_rfl) (by kernel_rfl) (by kernel_rfl)
 have h27:=@run_callFunc_extern Tryz.prog 282 _ (ReflectliteType.abiMethod fun t=>do pure (.int .u8 (←Rtype.kind t))) Tryz.func282 (by kernel_rfl) (by kernel_rfl) (by kernel_rfl) (by kernel_rfl)
 have h37:=@run_callFunc_extern Tryz.prog 294 _ (ReflectliteType.method ReflectliteType.elem) Tryz.func294 (by kernel_rfl) (by kernel_rfl) (by kernel_rfl) (by kernel_rfl)
 have h38:=@run_callFunc_extern Tryz.prog 295 _ (ReflectliteType.relation "Implements" ReflectliteType.implements_) Tryz.func295 (by kernel_rfl) (by kernel_rfl) (by kernel_rfl) (by kernel_rfl)
 have f6:=asF.valueOfP
 have f7:=asF.typeP
 have mK:=asErr.methodKind
 have mE:=asErr.methodElem
 have mI:=asErr.methodImplements
 have kP:=asF.kindP
 have kE:=asF.kindE
 have eP:=asF.elemP
 have iE:=asF.implementsE
 have hgl : 0 < w.heap.size:=World.block_lt_of_cell? w _ hg
 have htl:gt<w.heap.size:=World.block_lt_of_cell? w _ ht0
 go_enter Tryz.func34, Tryz.ntmps34
 go_upto_region 6 with fail
 obtain ⟨W1,hW1⟩:∃W1,W1=w.alloc (.cells #[.pointer (some ⟨gt,0,none⟩)] 98):=⟨_,rfl⟩
 have hs1:W1.heap.size=w.heap.size+1:=by rw [hW1];simp
 obtain ⟨W2,hW2⟩:∃W2,W2=W1.alloc (.cells #[.pointer (some ⟨9, 98, none⟩),.pointer (some ⟨w.heap.size,0,none⟩),.int .u64 150] 141):=⟨_,rfl⟩
 have hb1:Below w.heap.size w W1:=by rw [hW1];exact below_new w _
 have hb2:Below w.heap.size w W2:=by rw [hW2];exact hb1.alloc hb1.size _
 have hx1:∀(i:Nat) (u:Value),#[Value.pointer (some ⟨9, 98, none⟩),.pointer (some ⟨w.heap.size,0,none⟩),.int .u64 150][i]? = some u→W2.cell? ⟨w.heap.size+1,i,none⟩=some u:=by
  intro i u hu
  rw [←hs1,hW2,cell_of_row _ _ _ _ _ _ (heap_alloc_new W1 _)]
  exact hu
 have ha2:W2.cell? ⟨w.heap.size,0,none⟩=some (.pointer (some ⟨gt,0,none⟩)):=by
  rw [hW2,World.cell?_alloc_lt _ _ ⟨w.heap.size,0,none⟩ (by rw [hs1];show w.heap.size<_;omega),hW1,cell_of_row _ _ _ _ _ _ (heap_alloc_new w _)];rfl
 have hg2:W2.cell? ⟨0, 0,none⟩=some (.iface 199 (.agg #[.pointer (some ⟨9, 48, none⟩)])):=(hb2.cell (p:=⟨0, 0,none⟩) hgl).trans hg
 have hq0:W2.cell? ⟨gt,0,none⟩=some os:=(hb2.cell (p:=⟨gt,0,none⟩) htl).trans ht0
 have hq1:W2.cell? ⟨gt,1,none⟩=some on:=(hb2.cell (p:=⟨gt,1,none⟩) htl).trans ht1
 have fr:∀i,W2.frozen? ⟨gt,i,none⟩=w.frozen? ⟨gt,i,none⟩:=fun i=>by
  rw [hW2,World.frozen?_alloc_old _ _ ⟨gt,i,none⟩ (by rw [hs1];show gt≠_;omega),hW1,World.frozen?_alloc_old _ _ ⟨gt,i,none⟩ (Nat.ne_of_lt htl)]
 have hr0:W2.frozen? ⟨gt,0,none⟩=false:=by rw [fr];exact hf0
 have hr1:W2.frozen? ⟨gt,1,none⟩=false:=by rw [fr];exact hf1
 have n8:=asF.isNilP ⟨w.heap.size,0,none⟩ ⟨gt,0,none⟩ W2 ha2
 first
  | rw [←hW1,←hW2]
  | (rw [←hW1,hs1] at *;rw [←hW2])
 have hx0:=hx1 0 _ rfl;have hx2:=hx1 1 _ rfl;have hx3:=hx1 2 _ rfl
 clear hx1 hW1 hW2 hb1 hg ht0 ht1 hf0 hf1 hgl htl f6 h6 fr
 go_wp2_with (go_at_call 66; refine (std_asF_loop gt s n os on ⟨w.heap.size,0,none⟩ _ ha2 hq0 hq1 hr0 hr1).mono ?_;rintro ev w9 ⟨rfl,W9,rfl,hb9⟩)
 go_ret
 exact ⟨rfl,W9,rfl,hb2.trans (hb9.mono hb2.size)⟩
end Go.Proofs.YtgnfmopcialllaaGreatDoor
set_option linter.unusedSimpArgs false
set_option linter.unusedVariables false
namespace Go.Proofs.YtgnfmopcialllaaGreatDoor
open Go.RowKit
def lenOf:Value→Nat | .slice _ n _=>n | _=>0
theorem SliceIn.strong {α:Type} {S:Nat→Prop} {size:Nat} {R:α→List Value→Prop} {w:World} {v:Value} {xs:List α} (h:SliceIn S size R w v xs):SliceIn (fun j=>S j∧j<w.heap.size) size R w v xs:=by
 obtain ⟨p,cap,hv,h1,h2,h3⟩:=h
 refine ⟨p,cap,hv,h1,h2,fun i x hi=>?_⟩
 obtain ⟨b,off,vs,hp,hS,hlt,hR,hc⟩:=h3 i x hi
 exact ⟨b,off,vs,hp,⟨hS,hlt⟩,hlt,hR,hc⟩
theorem splitN_adv (q:List (List UInt8)):∀(p cur:List (List UInt8)),p.any (fun s=>s == Lb.andW)=false→Lb.splitN cur (p++q)=Lb.splitN (cur++p) q
 | [],cur,_=>by simp
 | x::p,cur,h=>by
  simp only [List.any_cons,Bool.or_eq_false_iff] at h
  rw [List.cons_append,Lb.splitN,h.1]
  simp only [Bool.false_eq_true,if_false]
  rw [splitN_adv q p _ h.2]
  simp
theorem splitN_miss (l:List (List UInt8)) (h:l.any (fun s=>s == Lb.andW)=false) (hl:l≠[]):Lb.splitN [] l=[Lb.join l]:=by
 have:=splitN_adv [] l [] h
 rw [List.append_nil,List.nil_append] at this
 rw [this,Lb.splitN]
 cases l with
 | nil=>exact absurd rfl hl
 | cons _ _=>rfl
theorem splitN_hit (l:List (List UInt8)) (k:Nat) (h:(l.take k).any (fun s=>s == Lb.andW)=false) (hk:l[k]? = some Lb.andW):Lb.splitN [] l=(if k=0 then [] else [Lb.join (l.take k)])++Lb.splitN [] (l.drop (k+1)):=by
 obtain ⟨h1,h2⟩:=List.getElem?_eq_some_iff.1 hk
 have e:l=l.take k++Lb.andW::l.drop (k+1):=by
  conv=>lhs;rw [←List.take_append_drop k l,List.drop_eq_getElem_cons h1,h2]
 conv=>lhs;rw [e]
 rw [splitN_adv _ _ _ h,List.nil_append,Lb.splitN]
 have he:(Lb.andW == Lb.andW)=true:=by decide
 rw [if_pos he]
 by_cases h0:k=0
 ·
  subst h0;simp
 ·
  have hne:(l.take k).isEmpty=false:=by
   cases hh:l.take k with
   | nil=>have:=congrArg List.length hh;rw [List.length_take,List.length_nil] at this;omega
   | cons _ _=>rfl
  rw [hne,if_neg h0];rfl
set_option maxRecDepth 100000 in
set_option maxHeartbeats 3200000 in
theorem nm_Split (s:List UInt8) (w:World) (hs:s.length≤1000000) :
  Calls Tryz.prog 136 #[.string ⟨s.toArray⟩] w fun e w'=>(∃v,e = .returned v∧SliceIn (fun j=>w.heap.size≤j) 1 RStr w' v (Lb.split s))∧Below w.heap.size w w':=by
 obtain ⟨i0,hi,hz0,hz1,hz2⟩:=info_parts str_info
 have Hi:=η hi;have Hz0:=η hz0;have Hz1:=η hz1;have Hz2:=η hz2;clear hi hz0 hz1 hz2
 have htw:=Lb.tot_words s
 have hlw:=Lb.len_tot (Lb.words s)
 obtain ⟨l0,hl0⟩:∃l0,Lb.words s=l0:=⟨_,rfl⟩
 have hsp:Lb.split s=Lb.splitN [] l0:=by rw [←hl0];rfl
 rw [hl0] at htw hlw
 have Hsp:=η hsp;have Hl0:=η hl0
 clear hsp hl0
 go_enter Tryz.func136, Tryz.ntmps136
 go_wp2_with (go_at_call 138; refine (nm_Words s _ hs).mono ?_;rw [Hl0.out];rintro e w1 ⟨⟨g,cap,rfl,hcp,hS1⟩,hb1⟩;have HS1:=η hS1.strong;have Hb1:=η hb1;clear hS1 hb1)
 go_loopw [3,4] (fun ov lv wr=>∃(b o c:Nat) (l out:List (List UInt8)),lv = .slice (some ⟨b,o,none⟩) l.length c∧OwnL w1.heap.size 9 1 RStr wr ov out∧SliceIn (fun j=>w.heap.size≤j∧j<w1.heap.size) 1 RStr wr (.slice (some ⟨b,o,none⟩) l.length c) l∧Below w1.heap.size w1 wr∧Lb.tot l≤1000001∧out.length+l.length≤1000001∧out++Lb.splitN [] l=Lb.split s) (fun _ lv _=>lenOf lv)
 case atStart=>exact ⟨g,0,cap,l0,[],rfl,OwnL.nil _ _ _ _ _,HS1.out,Below.refl _ _,by omega,by simp;omega,by rw [Hsp.out];rfl⟩
 case round =>
  obtain ⟨b,o,c,l,out,rfl,hO,hS,hb,htl,hol,hP⟩:=hrel
  have HS:=η hS;have Hb:=η hb;have HP:=η hP;have Htl:=η htl;have Hol:=η hol
  obtain ⟨fl,hown,hrep⟩:=hO
  have Hown:=η hown;have Hrep:=η hrep
  have hn47:(out.length+1)*16≤140737488355328:=by omega
  have hnm:out.length+1≤9223372036854775807:=by omega
  have Hn47:=η hn47;have Hnm:=η hnm;have HSZ:=η hb.size
  clear hS hb hP hown hrep hn47 hnm HS1
  by_cases hpos:0<l.length
  ·
   have hpos':(0:Int)<(l.length:Int):=by omega
   rcases ixP_cases (fun s=>s == Lb.andW) l with ⟨hany,hix⟩ | ⟨k,x,hx,hpx,hany,hix⟩
   ·
    have Hix:=η hix
    have hfin:out++[Lb.join l]=Lb.split s:=by rw [←HP.out,splitN_miss l hany (List.length_pos_iff.1 hpos)]
    have Hfin:=η hfin;have Hpos:=η hpos
    clear hix hany hfin hpos htl hol htw hlw hs
    go_wp2_with (first
     | (go_at_call 110; refine (nm_Index l Lb.andW _ _ _ HS.out).mono ?_;rw [Hix.out];rintro e w9 ⟨rfl,rfl⟩)
     | (go_at_call 140; refine (nm_join l _ _ _ HS.out (by have:=Htl.out;omega)).mono ?_;rintro e w5 ⟨rfl,hb5⟩;have Hown5:=η (own_below Hown.out hb5);have Hb5:=η (Hb.out.trans (hb5.mono Hb.out.size));have HSZ5:=η Hb5.out.size;clear hb5)
     | (at_builtin;go_loud (refine wpList_append1 rfl (.tmp 15) (.tmp 18) 24 rfl w1.heap.size 9 i0 (.string ⟨#[]⟩) 1 16 Tryz.underlying24 Hi.out Hz0.out Hz1.out Hz2.out rfl (by decide) _ _ _ Hown5.out rfl [.string ⟨(Lb.join l).toArray⟩] rfl (by simp) rfl (by simp [Value.oneCell']) Hnm.out Hn47.out HSZ5.out ?_);intro v2 w2 own2 g2 at2))
    go_ret
    have HO2:OwnL w1.heap.size 9 1 RStr w2 v2 (out++[Lb.join l]):=OwnL.more Hrep.out rfl own2
    rw [Hfin.out] at HO2
    have hb3:=Hb5.out.grown g2 Hb5.out.size (fun q e=>(Hown5.out.lt q e).1)
    exact ⟨⟨_,rfl,HO2.slice RStr.size _ (fun q h=>Nat.le_trans Hb1.out.size h)⟩,Hb1.out.trans (hb3.mono Hb1.out.size)⟩
   ·
    have hk:k<l.length:=(List.getElem?_eq_some_iff.1 hx).1
    obtain rfl:x=Lb.andW:=by simpa using hpx
    have hst:=splitN_hit l k hany hx
    have Hix:=η hix;have Hst:=η hst;have Hk:=η hk;have Hpos:=η hpos
    obtain ⟨k1,hk1⟩:∃k1,k1=k+1:=⟨_,rfl⟩
    have hwk:IntKind.i64.wrap ((k:Int)+1)=(k1:Int):=by rw [IntWalk.i64_in _ (by omega)];omega
    have hlc:l.length≤c:=by
     obtain ⟨p3,c3,e3,h3,_⟩:=HS.out
     simp only [Value.slice.injEq] at e3
     omega
    have hk1l:(k1:Int)≤(l.length:Int):=by omega
    have hkc:(k:Int)≤(c:Int):=by omega
    have hk1c:(k1:Int)≤(c:Int):=by omega
    have hlc':(l.length:Int)≤(c:Int):=by omega
    have hkneg:¬(k:Int)<0:=by omega
    have hpre:=HS.out.pre k (by omega)
    have hptl:=Lb.tot_take l k
    have hdtl:=Lb.tot_drop l (k+1)
    have Hpre:=η hpre;have Hptl:=η hptl;have Hdtl:=η hdtl;have Hk1:=η hk1;have Hlc:=η hlc
    have hlk:(l.take k).length=k:=by rw [List.length_take];omega
    have Hlk:=η hlk
    have hnc:¬(k1:Int)<0:=by omega
    clear hix hany hx hpx hst hk hpos hk1 hlc hpre hptl hdtl htl hol htw hlw hs hlk
    have hlm9:c≤9223372036854775807:=by
     obtain ⟨p3,c3,e3,_,h3,_⟩:=HS.out
     simp only [Value.slice.injEq] at e3
     unfold maxLen at h3;omega
    have hdl:(l.drop k1).length=l.length - k1:=List.length_drop
    have hsuf:∀W:World,SliceIn (fun j=>w.heap.size≤j∧j<w1.heap.size) 1 RStr W (.slice (some ⟨b,o,none⟩) l.length c) l → ∃o',(if c=k1 then some (⟨b,o,none⟩:Addr) else some ⟨b,o+k1,none⟩)=some ⟨b,o',none⟩∧SliceIn (fun j=>w.heap.size≤j∧j<w1.heap.size) 1 RStr W (.slice (some ⟨b,o',none⟩) (l.drop k1).length (c - k1)) (l.drop k1):=fun W h=>by
     by_cases hc:c=k1
     ·
      have hd:l.drop k1=[]:=List.drop_of_length_le (by have:=Hlc.out;omega)
      refine ⟨o,if_pos hc,?_⟩
      rw [hd]
      exact ⟨_,_,rfl,Nat.zero_le _,by unfold maxLen;have:=hlm9;omega,fun i x hi=>by simp at hi⟩
     ·
      refine ⟨o+k1,if_neg hc,?_⟩
      have:=h.suf k1 (by have:=Hk.out;have:=Hk1.out;omega)
      rw [hdl]
      rwa [Nat.mul_one] at this
    have Hsuf:=η hsuf
    have Hdl:=η hdl
    clear hsuf hdl hlm9
    by_cases hk0:k=0
    ·
     have hk0':¬(0:Int)<(k:Int):=by omega
     have hP2:out++Lb.splitN [] (l.drop k1)=Lb.split s:=by rw [←HP.out,Hst.out,if_pos hk0,Hk1.out];rfl
     have HP2:=η hP2;have Hk0:=η hk0
     clear hk0 hP2
     go_wp2_with (go_at_call 110; refine (nm_Index l Lb.andW _ _ _ HS.out).mono ?_;rw [Hix.out];rintro e w9 ⟨rfl,rfl⟩)
     all_goals go_roundw
     case rel =>
      obtain ⟨o',ho',hS'⟩:=Hsuf.out _ HS.out
      refine ⟨b,o',c - k1,l.drop k1,out,?_,⟨fl,Hown.out,Hrep.out⟩,hS',Hb.out,?_,?_,HP2.out⟩
      ·
       rw [ho',Hdl.out]
      ·
       have:=Hdtl.out;have:=Htl.out;have:=Hk1.out;rw [this];omega
      ·
       have:=Hol.out;rw [Hdl.out];omega
     case measure=>have:=Hpos.out;have:=Hk1.out;simp only [lenOf];omega
    ·
     have hk0':(0:Int)<(k:Int):=by omega
     have hP2:(out++[Lb.join (l.take k)])++Lb.splitN [] (l.drop k1)=Lb.split s:=by rw [←HP.out,Hst.out,if_neg hk0,Hk1.out];simp
     have HP2:=η hP2;have Hk0:=η hk0
     clear hk0 hP2
     go_wp2_with (first
      | (go_at_call 110; refine (nm_Index l Lb.andW _ _ _ HS.out).mono ?_;rw [Hix.out];rintro e w9 ⟨rfl,rfl⟩)
      | (go_at_call 140; refine (nm_join (l.take k) _ _ _ Hpre.out (by have:=Hptl.out;have:=Htl.out;omega)).mono ?_;rintro e w5 ⟨rfl,hb5⟩;have Hown5:=η (own_below Hown.out hb5);have HS5:=η (HS.out.below' hb5);have Hb5:=η (Hb.out.trans (hb5.mono Hb.out.size));have HSZ5:=η Hb5.out.size;clear hb5)
      | (at_builtin;go_loud (refine wpList_append1 rfl (.tmp 22) (.tmp 27) 24 rfl w1.heap.size 9 i0 (.string ⟨#[]⟩) 1 16 Tryz.underlying24 Hi.out Hz0.out Hz1.out Hz2.out rfl (by decide) _ _ _ Hown5.out rfl [.string ⟨(Lb.join (l.take k)).toArray⟩] rfl (by simp) rfl (by simp [Value.oneCell']) Hnm.out Hn47.out HSZ5.out ?_);intro v2 w2 own2 g2 at2))
     all_goals go_roundw
     case rel =>
      obtain ⟨o',ho',hS'⟩:=Hsuf.out _ HS5.out
      have hb3:=Hb5.out.grown g2 Hb5.out.size (fun q e=>(Hown5.out.lt q e).1)
      refine ⟨b,o',c - k1,l.drop k1,out++[Lb.join (l.take k)],?_,OwnL.more Hrep.out rfl own2,hS'.kept (fun _ h=>h) g2.size (fun j hj hlt=>g2.block j hlt (fun e=>by have:=(Hown5.out.lt _ e.symm).1;omega)) (fun _ _ _ h=>h),hb3,?_,?_,HP2.out⟩
      ·
       rw [ho',Hdl.out]
      ·
       have:=Hdtl.out;have:=Htl.out;have:=Hk1.out;rw [this];omega
      ·
       have:=Hol.out;have:=Hk1.out;have:=Hpos.out;rw [Hdl.out,List.length_append,List.length_singleton];omega
     case measure=>have:=Hpos.out;have:=Hk1.out;simp only [lenOf];omega
  ·
   have hpos':¬(0:Int)<(l.length:Int):=by omega
   obtain rfl:l=[]:=by cases l with | nil=>rfl | cons _ _=>simp at hpos
   have hfin:out=Lb.split s:=by rw [←HP.out];simp [Lb.splitN]
   have Hfin:=η hfin
   clear hpos htl hol
   go_wp2_with fail
   go_ret
   have HO2:OwnL w1.heap.size 9 1 RStr wr u3 out:=⟨fl,Hown.out,Hrep.out⟩
   rw [Hfin.out] at HO2
   exact ⟨⟨_,rfl,HO2.slice RStr.size _ (fun q h=>Nat.le_trans Hb1.out.size h)⟩,Hb1.out.trans (Hb.out.mono Hb1.out.size)⟩
end Go.Proofs.YtgnfmopcialllaaGreatDoor
set_option linter.unusedSimpArgs false
set_option linter.unusedVariables false
namespace Go.Proofs.YtgnfmopcialllaaGreatDoor
open Go.RowKit
set_option maxRecDepth 100000 in
set_option maxHeartbeats 1600000 in
theorem nm_vonLast (l:List (List UInt8)) (b o cap:Nat) (S:Nat→Prop) (w:World) (hS:SliceIn S 1 RStr w (.slice (some ⟨b,o,none⟩) l.length cap) l) (hcp:0<cap) (hne:∀x ∈ l,x≠[]) (htl:Lb.tot l≤8000000) :
  Calls Tryz.prog 181 #[.slice (some ⟨b,o,none⟩) l.length cap] w fun e w'=>e = .returned (.tuple #[.string ⟨(Lb.join (l.take (Lb.lastN l))).toArray⟩,.string ⟨(Lb.join (l.drop (Lb.lastN l))).toArray⟩])∧Below w.heap.size w w':=by
 have hnl:=Lb.lastN_le l
 obtain ⟨n,hn⟩:∃n,Lb.lastN l=n:=⟨_,rfl⟩
 rw [hn] at hnl ⊢
 have hlc:l.length≤cap∧cap≤9223372036854775807:=by
  obtain ⟨p3,c3,e3,h3,h4,_⟩:=hS
  simp only [Value.slice.injEq] at e3
  unfold maxLen at h4;omega
 have Cpre:∀W,Below w.heap.size w W→Calls Tryz.prog 140 #[.slice (some ⟨b,o,none⟩) n cap] W fun e w'=>e = .returned (.string ⟨(Lb.join (l.take n)).toArray⟩)∧Below W.heap.size W w':=fun W hW =>
  nm_join _ _ _ _ ((hS.below' hW).pre n (by omega)) (Nat.le_trans (Lb.tot_take l n) htl)
 have Csuf:∀W,Below w.heap.size w W→Calls Tryz.prog 140 #[.slice (some ⟨b,o+n,none⟩) (l.length - n) (cap - n)] W fun e w'=>e = .returned (.string ⟨(Lb.join (l.drop n)).toArray⟩)∧Below W.heap.size W w':=fun W hW =>
  nm_join _ _ _ _ (by have:=(hS.below' hW).suf n (by omega);rwa [Nat.mul_one] at this) (Nat.le_trans (Lb.tot_drop l n) htl)
 have q1:(n:Int)≤(cap:Int):=by omega
 have q2:(n:Int)≤(l.length:Int):=by omega
 have q3:¬cap=n:=by omega
 have q4:(l.length:Int)≤(cap:Int):=by omega
 have Hpre:=η Cpre;have Hsuf:=η Csuf;have Hn:=η hn;have HS:=η hS;have Hne:=η hne
 clear Cpre Csuf hn hS hne hlc hnl hcp htl
 have hb0:Below w.heap.size w w.drew:=(Below.refl _ _).drew
 go_enter Tryz.func181, Tryz.ntmps181
 go_wp2_with (go_at_call 182; refine (nm_last l _ _ _ HS.out Hne.out).mono ?_;rw [Hn.out];rintro e w9 ⟨rfl,rfl⟩)
 go_region_held3 (fun W=>Below w.heap.size w W)
  (first | exact hS | exact bseq ‹_› b2 | go_keep)
  (first
   | (go_at_call 140; with_reducible refine (Hpre.out _ ?_).mono ?_;(assumption);rintro e w2 ⟨rfl,b2⟩)
   | (go_at_call 140; with_reducible refine (Hsuf.out _ ?_).mono ?_;(assumption);rintro e w2 ⟨rfl,b2⟩))
 go_wp2
 go_ret2
 exact ⟨rfl,by assumption⟩
theorem std_commas (s:List UInt8) (m:Int) (w:World) (hs:s.length≤1000000) (hm:w.cell? ⟨2, 0,none⟩=some (.int .i64 m)) :
  Calls Tryz.prog 180 #[.string ⟨s.toArray⟩,.string ⟨#[44]⟩] w fun e w'=>e = .returned (.slice (some ⟨w.heap.size,0,none⟩) (Lb.commas s).length (Lb.commas s).length)∧SliceIn (fun j=>w.heap.size≤j) 1 RStr w' (.slice (some ⟨w.heap.size,0,none⟩) (Lb.commas s).length (Lb.commas s).length) (Lb.commas s)∧Below w.heap.size w w':=by
 have hsz:(⟨s.toArray⟩:ByteArray).size=s.length:=by show s.toArray.size=_;simp
 have h:=Tryz.strings_Split ⟨s.toArray⟩ ⟨#[44]⟩ m w (by rw [hsz];omega) hm (Nat.le_refl 1)
 rw [Lb.count_pieces 44 s,Lb.splitB_pieces 44 s,List.map_map] at h
 have hl:=Lb.tot_pieces (fun c=>c == 44) s []
 have hl2:=Lb.len_tot (Lb.commas s)
 refine h.mono ?_
 rintro e w1 ⟨he,hw⟩
 have hown:=own_built w w.heap.size 9 1 (Lb.commas s).length ((Lb.commas s).map fun t=>.string ⟨t.toArray⟩) (Nat.le_refl _) (by simp) (by unfold maxLen;unfold Lb.commas at hl2 ⊢;simp at hl;omega)
 refine ⟨he,?_,by rw [hw];exact below_new w _⟩
 rw [hw]
 exact SliceIn.own hown (strs_rep _) RStr.size rfl (fun b hb=>by simp only [Value.ownBlock,Option.some.injEq] at hb;omega)
theorem SliceIn.cellS {S:Nat→Prop} {w:World} {b o n c:Nat} {l:List (List UInt8)} (h:SliceIn S 1 RStr w (.slice (some ⟨b,o,none⟩) n c) l) {i:Nat} {x:List UInt8} (hx:l[i]? = some x):w.cell? ⟨b,o+i,none⟩=some (.string ⟨x.toArray⟩):=by
 obtain ⟨p,cap,hv,_,_,hat⟩:=h
 obtain ⟨b',off,vs,hp,_,_,hR,hc⟩:=hat i x hx
 simp only [Value.slice.injEq] at hv
 rw [hp] at hv
 simp only [Option.some.injEq,Addr.mk.injEq,and_true] at hv
 obtain ⟨⟨rfl,rfl⟩,_⟩:=hv
 have hR:vs=_:=hR
 subst hR
 have:=hc 0 _ rfl
 rwa [Nat.mul_one,Nat.add_zero] at this
structure P4 (W:World) (g:Nat) (a b c d:Value):Prop where
 c0:W.cell? ⟨g,0,none⟩=some a
 c1:W.cell? ⟨g,1,none⟩=some b
 c2:W.cell? ⟨g,2,none⟩=some c
 c3:W.cell? ⟨g,3,none⟩=some d
 f:∀i,W.frozen? ⟨g,i,none⟩=false
 lt:g<W.heap.size
section
variable {W W':World} {g:Nat} {a b c d:Value}
theorem P4.new (w:World) (t:TypeId) (a b c d:Value):P4 (w.alloc (.cells #[a,b,c,d] t)) w.heap.size a b c d:=by
 have h:∀(i:Nat) (u:Value),#[a,b,c,d][i]? = some u→(w.alloc (.cells #[a,b,c,d] t)).cell? ⟨w.heap.size,i,none⟩=some u:=by
  intro i u hu
  rw [cell_of_row _ _ _ _ _ _ (heap_alloc_new w _)]
  exact hu
 exact ⟨h 0 _ rfl,h 1 _ rfl,h 2 _ rfl,h 3 _ rfl,fun i=>by simp,lt_alloc w _⟩
theorem P4.below (h:P4 W g a b c d) {B:Nat} (hb:Below B W W') (hg:g<B):P4 W' g a b c d :=
 ⟨(hb.cell (p:=⟨g,0,none⟩) hg).trans h.c0,(hb.cell (p:=⟨g,1,none⟩) hg).trans h.c1,(hb.cell (p:=⟨g,2,none⟩) hg).trans h.c2,(hb.cell (p:=⟨g,3,none⟩) hg).trans h.c3,
  fun i=>(World.frozen?_of_block (hb.block g hg)).trans (h.f i),Nat.lt_of_lt_of_le h.lt hb.size⟩
theorem P4.below' (h:P4 W g a b c d) (hb:Below W.heap.size W W'):P4 W' g a b c d:=h.below hb h.lt
theorem P4.drew (h:P4 W g a b c d):P4 W.drew g a b c d:=⟨h.c0,h.c1,h.c2,h.c3,h.f,h.lt⟩
theorem P4.other (h:P4 W g a b c d) {k:Nat} (hk:k≠g) (i:Nat) (v:Value):P4 (W.setCell ⟨k,i,none⟩ v) g a b c d:=by
 have e:∀j,(W.setCell ⟨k,i,none⟩ v).cell? ⟨g,j,none⟩=W.cell? ⟨g,j,none⟩:=fun j=>World.cell?_setCell_other _ _ _ _ (fun e=>hk (by cases e;rfl))
 exact ⟨(e 0).trans h.c0,(e 1).trans h.c1,(e 2).trans h.c2,(e 3).trans h.c3,fun j=>by simpa using h.f j,by simpa using h.lt⟩
theorem P4.set0 (h:P4 W g a b c d) (v:Value):P4 (W.setCell ⟨g,0,none⟩ v) g v b c d :=
 ⟨World.cell?_setCell_same _ _ _ h.c0,(World.cell?_setCell_other _ _ _ _ (by simp)).trans h.c1,(World.cell?_setCell_other _ _ _ _ (by simp)).trans h.c2,(World.cell?_setCell_other _ _ _ _ (by simp)).trans h.c3,fun j=>by simpa using h.f j,by simpa using h.lt⟩
theorem P4.set1 (h:P4 W g a b c d) (v:Value):P4 (W.setCell ⟨g,1,none⟩ v) g a v c d :=
 ⟨(World.cell?_setCell_other _ _ _ _ (by simp)).trans h.c0,World.cell?_setCell_same _ _ _ h.c1,(World.cell?_setCell_other _ _ _ _ (by simp)).trans h.c2,(World.cell?_setCell_other _ _ _ _ (by simp)).trans h.c3,fun j=>by simpa using h.f j,by simpa using h.lt⟩
theorem P4.set2 (h:P4 W g a b c d) (v:Value):P4 (W.setCell ⟨g,2,none⟩ v) g a b v d :=
 ⟨(World.cell?_setCell_other _ _ _ _ (by simp)).trans h.c0,(World.cell?_setCell_other _ _ _ _ (by simp)).trans h.c1,World.cell?_setCell_same _ _ _ h.c2,(World.cell?_setCell_other _ _ _ _ (by simp)).trans h.c3,fun j=>by simpa using h.f j,by simpa using h.lt⟩
theorem P4.set3 (h:P4 W g a b c d) (v:Value):P4 (W.setCell ⟨g,3,none⟩ v) g a b c v :=
 ⟨(World.cell?_setCell_other _ _ _ _ (by simp)).trans h.c0,(World.cell?_setCell_other _ _ _ _ (by simp)).trans h.c1,(World.cell?_setCell_other _ _ _ _ (by simp)).trans h.c2,World.cell?_setCell_same _ _ _ h.c3,fun j=>by simpa using h.f j,by simpa using h.lt⟩
theorem P4.all (h:P4 W g a b c d) (a' b' c' d':Value):P4 ((((W.setCell ⟨g,0,none⟩ a').setCell ⟨g,1,none⟩ b').setCell ⟨g,2,none⟩ c').setCell ⟨g,3,none⟩ d') g a' b' c' d' :=
 (((h.set0 a').set1 b').set2 c').set3 d'
end
theorem below4 {B g:Nat} {a0 w:World} (h:Below B a0 w) (hg:B≤g) (a b c d:Value):Below B a0 ((((w.setCell ⟨g,0,none⟩ a).setCell ⟨g,1,none⟩ b).setCell ⟨g,2,none⟩ c).setCell ⟨g,3,none⟩ d) :=
 (((h.setCell (p:=⟨g,0,none⟩) hg a).setCell (p:=⟨g,1,none⟩) hg b).setCell (p:=⟨g,2,none⟩) hg c).setCell (p:=⟨g,3,none⟩) hg d
theorem SliceIn.set4 {α:Type} {S:Nat→Prop} {size:Nat} {R:α→List Value→Prop} {w:World} {v:Value} {xs:List α} (h:SliceIn S size R w v xs) {g:Nat} (hg:∀j,S j→j≠g) (i:Nat) (u:Value):SliceIn S size R (w.setCell ⟨g,i,none⟩ u) v xs :=
 h.kept (fun _ h=>h) (by simp [World.setCell]) (fun j hj _=>Below.heap_setCell _ _ _ _ (hg j hj)) (fun _ _ _ h=>h)
theorem load_per (g:Nat) (a b c d:Value) (w:World) (h0:w.cell? ⟨g,0,none⟩=some a) (h1:w.cell? ⟨g,1,none⟩=some b) (h2:w.cell? ⟨g,2,none⟩=some c) (h3:w.cell? ⟨g,3,none⟩=some d) :
  (loadVar 169 ⟨g,0,none⟩).run Tryz.prog w = .ok (.agg #[a,b,c,d]) w:=by
 go_simp
theorem ret_one {P:Program} {fn:Func} {R:Ending→World→Prop} {a:Act} {w:World} {v:Value} {p:Tmp} {ty:TypeId} {ad:Addr} (h:fn.results = #[.cell p ty]) (hp:a.tmps.getD p undef = .pointer (some ad))
  (hl:(loadVar ty ad).run P w = .ok v w) (hd:a.defers=[]) (hR:R (.returned v) w):bodyPost P fn R .ret a w:=by
 refine bodyPost_ret (v:=v) ?_ hd hR
 have hp':a.tmps[p]?.getD undef = .pointer (some ad):=by simpa using hp
 simp [results,h,hp',asAddr,hl]
def perV (p:Lb.Per):Value:=.agg #[.string ⟨p.first.toArray⟩,.string ⟨p.von.toArray⟩,.string ⟨p.last.toArray⟩,.string ⟨p.jr.toArray⟩]
end Go.Proofs.YtgnfmopcialllaaGreatDoor
