/- The walks of package side (layer 10), tenth part: the table of readers. -/
import Derived.Test.YtgnfmopcialllaaGreatDoorTk
import Derived.Test.YtgnfmopcialllaaGreatDoorSidW9
import Derived.WideMake
set_option linter.unusedSimpArgs false
set_option linter.unusedVariables false
namespace Go.Proofs.YtgnfmopcialllaaGreatDoor
open Go.RowKit
section
variable {P:Program} (w:World)
theorem run_put_new (mty kt et:TypeId) (r clock:Nat) (es:Array MapEntry) (s:ByteArray) (val:Value) (hm:P.underlying mty=some (.map kt et)) (hk:P.underlying kt=some .string) (hb:w.heap[r]? = some (.map es clock))
  (hf:Instr.findNow .string (.string s) es.toList 0=some none) :
  (Instr.mapUpdate mty (.map (some r)) (.string s) val).run P w = .ok () { w with heap:=w.heap.setIfInBounds r (.map (es.push { key:=.string s,val:=val,born:=clock }) (clock+1)) }:=by
 have hc:(Instr.checkKey false 10000 kt (.string s)).run P w = .ok () w:=MapKept.run_checkKey (k:=.string s) hk (by simp [MapKept.IsKey]) false 9999
 simp [Instr.mapUpdate,run_underlying hm,MapKept.run_getObj_map hb,hc,MapKept.run_findKey hk hf,MapKept.run_setObj_map _ hb,Result.andThen]
theorem run_look_lit (mty kt et:TypeId) (r clock:Nat) (es:Array MapEntry) (s:ByteArray) (i:Nat) (v:Value) (hm:P.underlying mty=some (.map kt et)) (hk:P.underlying kt=some .string) (hb:w.heap[r]? = some (.map es clock))
  (hf:Instr.findNow .string (.string s) es.toList 0=some (some (i,v))) :
  (Instr.lookup mty (.map (some r)) (.string s) true).run P w = .ok (.tuple #[v,.bool true]) w:=by
 have hc:(Instr.checkKey es.isEmpty 10000 kt (.string s)).run P w = .ok () w:=MapKept.run_checkKey (k:=.string s) hk (by simp [MapKept.IsKey]) es.isEmpty 9999
 simp [Instr.lookup,run_underlying hm,MapKept.run_getObj_map hb,hc,MapKept.run_findKey hk hf,Result.andThen]
theorem run_look_none (mty kt et:TypeId) (r clock:Nat) (es:Array MapEntry) (s:ByteArray) (z:Value) (hm:P.underlying mty=some (.map kt et)) (hk:P.underlying kt=some .string) (hb:w.heap[r]? = some (.map es clock))
  (hf:Instr.findNow .string (.string s) es.toList 0=some none) (hz:(zeroValue et).run P w = .ok z w) :
  (Instr.lookup mty (.map (some r)) (.string s) true).run P w = .ok (.tuple #[z,.bool false]) w:=by
 have hc:(Instr.checkKey es.isEmpty 10000 kt (.string s)).run P w = .ok () w:=MapKept.run_checkKey (k:=.string s) hk (by simp [MapKept.IsKey]) es.isEmpty 9999
 simp [Instr.lookup,run_underlying hm,MapKept.run_getObj_map hb,hc,MapKept.run_findKey hk hf,hz,Result.andThen]
end
def rdEs:Array MapEntry:=#[{ key:=.string ⟨#[108,97,98,101,108]⟩,val:=.agg #[.int .i64 4,.func (.func 113) #[] #[]],born:=0 },{ key:=.string ⟨#[104,101,97,100]⟩,val:=.agg #[.int .i64 5,.func (.func 115) #[] #[]],born:=1 },{ key:=.string ⟨#[99,105,116,101]⟩,val:=.agg #[.int .i64 2,.func (.func 116) #[] #[]],born:=2 },{ key:=.string ⟨#[98,105,98]⟩,val:=.agg #[.int .i64 2,.func (.func 117) #[] #[]],born:=3 }]
theorem heap_put (W:World) (r:Nat) (o:Obj) (h:r<W.heap.size):({ W with heap:=W.heap.setIfInBounds r o }:World).heap[r]? = some o:=by
 show (W.heap.setIfInBounds r o)[r]? = _
 rw [Array.getElem?_setIfInBounds_self_of_lt h]
theorem below_put (B:Nat) (a W:World) (r:Nat) (o:Obj) (hb:Below B a W) (hr:B≤r):Below B a { W with heap:=W.heap.setIfInBounds r o }:=by
 refine ⟨hb.os,hb.tape,hb.output,?_,fun k hk=>?_⟩
 ·
  show a.heap.size≤(W.heap.setIfInBounds r o).size
  rw [Array.size_setIfInBounds];exact hb.size
 ·
  show (W.heap.setIfInBounds r o)[k]? = _
  rw [Array.getElem?_setIfInBounds_ne (by omega)]
  exact hb.block k hk
theorem put_step (w W:World) (r clock:Nat) (es:Array MapEntry) (s:ByteArray) (val:Value) (hb:W.heap[r]? = some (.map es clock)) (hB:Below w.heap.size w W) (hr:w.heap.size≤r)
  (hf:Instr.findNow .string (.string s) es.toList 0=some none):∃W',(Instr.mapUpdate 131 (.map (some r)) (.string s) val).run Tryz.prog W = .ok () W'∧W'.heap[r]? = some (.map (es.push { key:=.string s,val:=val,born:=clock }) (clock+1))∧Below w.heap.size w W':=by
 refine ⟨_,run_put_new W 131 9 135 r clock es s val Tryz.underlying131 Tryz.underlying9 hb hf,?_,below_put _ _ _ _ _ hB hr⟩
 have hlt:r<W.heap.size:=by
  rcases Nat.lt_or_ge r W.heap.size with h | h
  ·
   exact h
  ·
   rw [Array.getElem?_eq_none h] at hb;cases hb
 exact heap_put W r _ hlt
theorem beq_bytes (a b:List UInt8):((⟨a.toArray⟩:ByteArray) == ⟨b.toArray⟩)=(a == b):=by
 first
  | (show (a.toArray == b.toArray)=(a == b);simp;done)
  | (simp;done)
  | go_simp
def rdV (i:Nat):Value:=(rdEs[i]?.map (·.val)).getD undef
theorem rd_find (s:List UInt8):Instr.findNow .string (.string ⟨s.toArray⟩) rdEs.toList 0=some (if s=Sd.labW then some (0,rdV 0) else if s=Sd.headW then some (1,rdV 1) else if s=Sd.citeW then some (2,rdV 2) else if s=Sd.bibW then some (3,rdV 3) else none):=by
 have e0:((⟨s.toArray⟩:ByteArray) == ⟨#[108,97,98,101,108]⟩)=(s == Sd.labW):=beq_bytes s Sd.labW
 have e1:((⟨s.toArray⟩:ByteArray) == ⟨#[104,101,97,100]⟩)=(s == Sd.headW):=beq_bytes s Sd.headW
 have e2:((⟨s.toArray⟩:ByteArray) == ⟨#[99,105,116,101]⟩)=(s == Sd.citeW):=beq_bytes s Sd.citeW
 have e3:((⟨s.toArray⟩:ByteArray) == ⟨#[98,105,98]⟩)=(s == Sd.bibW):=beq_bytes s Sd.bibW
 unfold rdEs
 simp only [Instr.findNow,Instr.sameNow,e0,e1,e2,e3]
 by_cases h0:s=Sd.labW
 ·
  simp [h0];rfl
 ·
  have n0:(s == Sd.labW)=false:=by simpa using h0
  simp only [n0,if_neg h0]
  by_cases h1:s=Sd.headW
  ·
   simp [h1];rfl
  ·
   have n1:(s == Sd.headW)=false:=by simpa using h1
   simp only [n1,if_neg h1]
   by_cases h2:s=Sd.citeW
   ·
    simp [h2];rfl
   ·
    have n2:(s == Sd.citeW)=false:=by simpa using h2
    simp only [n2,if_neg h2]
    by_cases h3:s=Sd.bibW
    ·
     simp [h3];rfl
    ·
     have n3:(s == Sd.bibW)=false:=by simpa using h3
     simp only [n3,if_neg h3]
set_option maxRecDepth 100000 in
set_option maxHeartbeats 1600000 in
theorem side_readers (w:World) :
  Calls Tryz.prog 62 #[] w fun e w'=>e = .returned (.map (some w.heap.size))∧Below w.heap.size w w'∧w'.heap[w.heap.size]? = some (.map rdEs 4):=by
 have hmm:=@run_makeMap Tryz.prog
 have h0:(w.alloc (.map #[] 0)).heap[w.heap.size]? = some (.map #[] 0):=by
  show (w.heap.push _)[w.heap.size]? = _
  simp
 obtain ⟨W1,r1,h1,b1⟩:=put_step w (w.alloc (.map #[] 0)) w.heap.size 0 #[] ⟨#[108,97,98,101,108]⟩ (.agg #[.int .i64 4,.func (.func 113) #[] #[]]) h0 (below_new w _) (Nat.le_refl _) (by kernel_rfl)
 obtain ⟨W2,r2,h2,b2⟩:=put_step w W1 w.heap.size 1 #[{ key:=.string ⟨#[108,97,98,101,108]⟩,val:=.agg #[.int .i64 4,.func (.func 113) #[] #[]],born:=0 }] ⟨#[104,101,97,100]⟩ (.agg #[.int .i64 5,.func (.func 115) #[] #[]]) h1 b1 (Nat.le_refl _) (by kernel_rfl)
 obtain ⟨W3,r3,h3,b3⟩:=put_step w W2 w.heap.size 2 #[{ key:=.string ⟨#[108,97,98,101,108]⟩,val:=.agg #[.int .i64 4,.func (.func 113) #[] #[]],born:=0 },{ key:=.string ⟨#[104,101,97,100]⟩,val:=.agg #[.int .i64 5,.func (.func 115) #[] #[]],born:=1 }] ⟨#[99,105,116,101]⟩ (.agg #[.int .i64 2,.func (.func 116) #[] #[]]) h2 b2 (Nat.le_refl _) (by kernel_rfl)
 obtain ⟨W4,r4,h4,b4⟩:=put_step w W3 w.heap.size 3 #[{ key:=.string ⟨#[108,97,98,101,108]⟩,val:=.agg #[.int .i64 4,.func (.func 113) #[] #[]],born:=0 },{ key:=.string ⟨#[104,101,97,100]⟩,val:=.agg #[.int .i64 5,.func (.func 115) #[] #[]],born:=1 },{ key:=.string ⟨#[99,105,116,101]⟩,val:=.agg #[.int .i64 2,.func (.func 116) #[] #[]],born:=2 }] ⟨#[98,105,98]⟩ (.agg #[.int .i64 2,.func (.func 117) #[] #[]]) h3 b3 (Nat.le_refl _) (by kernel_rfl)
 have H4:=η h4;have B4:=η b4
 clear h0 h1 h2 h3 h4 b1 b2 b3 b4
 go_enter Tryz.func62, Tryz.ntmps62
 go_wp2_with fail
 go_ret
 exact ⟨rfl,B4.out,H4.out⟩
end Go.Proofs.YtgnfmopcialllaaGreatDoor
