/- The plain model of package entry (layer 15). Plain Lean, no program in sight. Support: small facts on strings, results, owned rows; 'append(xs, x)' of one new element. No program in sight. Slices of structs, read as lists: rows of elements of some cells each. No program in sight. The walks of package entry, first part: signs, small letters, marks. A row of bytes of the call's own: '[]byte(s)', written, and back. No program in sight. The walks of package entry: small letters. Entries and fields in memory; the walk of entry.Get. Maps from texts, as functions: the call's own. The plain model of the reader of package entry. Plain Lean, no program in sight. The walks of package entry's reader, first part: blanks, one byte, marks. -/
import Derived.Lib.Strings
import Derived.Lib.Case
import Derived.WalkKit
import Derived.WalkSpells
import Derived.WalkLawsBesides
import Derived.Lib.Hide
import Derived.Maps.AppendAt
import Derived.Deep.AppendLies
import Derived.Deep.DeepCutAuto
import Derived.Deep.CutBlock
import Derived.Test.YtgnfmopcialllaaGreatDoorTk
import Derived.Test.YtgnfmopcialllaaGreatDoorChecked
import Derived.Test.YtgnfmopcialllaaGreatDoorShelf
import Derived.Laws.IdiomStrings
import Derived.Maps.OwnSet
import Derived.Maps.OwnOps
import Derived.BigQuiet
set_option linter.unusedSimpArgs false
set_option linter.unusedVariables false
namespace Go.Proofs.YtgnfmopcialllaaGreatDoor.Ent
def sign (c:UInt8):Bool:=(decide (97≤c.toNat)&&decide (c.toNat≤122)) || (decide (65≤c.toNat)&&decide (c.toNat≤90)) || (decide (48≤c.toNat)&&decide (c.toNat≤57)) || (c == 45 || c == 46 || c == 95 || c == 58)
def low (c:UInt8):UInt8:=if 65≤c.toNat∧c.toNat≤90 then c+32 else c
def small (l:List UInt8):List UInt8:=l.map low
def marked (l:List UInt8):Bool:=l.all sign&&l != []
end Go.Proofs.YtgnfmopcialllaaGreatDoor.Ent
set_option linter.unusedSimpArgs false
set_option linter.unusedVariables false
namespace Go.Proofs.YtgnfmopcialllaaGreatDoor
open Go.RowKit
theorem ret_int {k:IntKind} {a b:Int} (h:a=b):Ending.returned (.int k a) = .returned (.int k b):=by rw [h]
theorem ret_str {a b:List UInt8} (h:a=b):Ending.returned (.string ⟨a.toArray⟩) = .returned (.string ⟨b.toArray⟩):=by rw [h]
theorem ret_bool {a b:Bool} (h:a=b):Ending.returned (.bool a) = .returned (.bool b):=by rw [h]
theorem size_mk (l:List UInt8):(⟨l.toArray⟩:ByteArray).size=l.length:=by simp [ByteArray.size]
theorem append_data (a b:List UInt8):(⟨a.toArray⟩:ByteArray)++⟨b.toArray⟩=⟨(a++b).toArray⟩:=by
 apply ByteArray.ext
 simp
theorem extract_any (l:List UInt8) (a b:Nat):(⟨l.toArray⟩:ByteArray).extract a b=⟨((l.drop a).take (b - a)).toArray⟩:=by
 apply ByteArray.ext
 simp
theorem extract_end (l:List UInt8) (a:Nat):(⟨l.toArray⟩:ByteArray).extract a l.length=⟨(l.drop a).toArray⟩:=by
 apply ByteArray.ext
 simp [List.take_of_length_le]
theorem byte_at (l:List UInt8) (k:Nat) (x:UInt8) (hx:l[k]? = some x):∀h,(⟨l.toArray⟩:ByteArray)[k]'h=x:=by
 intro h
 obtain ⟨h',e⟩:=List.getElem?_eq_some_iff.1 hx
 exact e
theorem encode_ascii (r:Int) (h0:0≤r) (h1:r<128):Utf8.encode r=⟨#[UInt8.ofNat r.toNat]⟩:=by
 have hv:Utf8.valid r=true:=by unfold Utf8.valid;simp;omega
 unfold Utf8.encode
 simp only [hv,if_true]
 rw [if_pos (by omega)]
theorem drop_get (s:ByteArray) (k:Nat) (h:k<s.size):s.data.toList.drop k=s[k]::s.data.toList.drop (k+1):=by
 rw [List.drop_eq_getElem_cons (by simpa using h)];rfl
theorem drop_end (s:ByteArray) (k:Nat) (h:s.size≤k):s.data.toList.drop k=[]:=List.drop_of_length_le (by simpa using h)
def strLen:Value→Nat | .string s=>s.size | _=>0
theorem bseq {w w1 w2:World} (b1:Below w.heap.size w w1) (b2:Below w1.heap.size w1 w2):Below w.heap.size w w2:=b1.trans (b2.mono b1.size)
theorem grown_of_below {w w':World} (hb:Below w.heap.size w w') (row:Option Nat):w.grownBy w' row:=⟨hb.os,hb.tape,hb.output,hb.size,fun k hk _=>hb.block k hk⟩
theorem grown_trans {a b c:World} {row:Option Nat} (h:a.grownBy b row) (k:b.grownBy c row):a.grownBy c row :=
 ⟨k.os.trans h.os,k.tape.trans h.tape,k.output.trans h.output,Nat.le_trans h.size k.size,fun i hi hne=>(k.block i (Nat.lt_of_lt_of_le hi h.size) hne).trans (h.block i hi hne)⟩
theorem own_below {w w':World} {base e size n:Nat} {v:Value} {xs:List Value} (h:w.ownsRow base e size v n xs) (hb:Below w.heap.size w w'):w'.ownsRow base e size v n xs :=
 h.kept (grown_of_below hb none) (by cases hv:v.ownBlock <;> simp)
theorem below_grown {B base e size n:Nat} {a w w':World} {v:Value} {xs:List Value} (h:Below B a w) (hg:w.grownBy w' v.ownBlock) (hown:w.ownsRow base e size v n xs) (hB:B≤w.heap.size) (hb:B≤base):Below B a w' :=
 h.grown hg hB (fun k hk=>Nat.le_trans hb (hown.lt k hk).1)
theorem own_built (w:World) (base e size n:Nat) (cs:List Value) (hb:base≤w.heap.size) (hl:cs.length=n*size) (hm:n≤maxLen) :
  (w.alloc (.cells cs.toArray e)).ownsRow base e size (.slice (some ⟨w.heap.size,0,none⟩) n n) n cs :=
 ⟨hl,.inr ⟨w.heap.size,n,_,rfl,hb,heap_alloc_new w _,Nat.le_refl _,hm,by simpa using hl,by rw [List.take_of_length_le (by simp [hl])]⟩⟩
theorem wpList_append1 {P:Program} {ops:Array Oper} {rest:List Oper} {o:Oper} {a:Act} {w1:World} {Q:Exit→Act→World→Prop} (hgd:o.guard=none) (s x:Operand) (t:TypeId)
  (ho:o.op = .call { callee:=.builtin .append,args:=#[s,x],argTypes:=#[t,t] })
  (base:Nat) (e:TypeId) (i:TypeInfo) (z:Value) (size bytes:Nat) (ht:P.underlying t=some (.slice e)) (hi:P.info? e=some i) (hz:i.zero=some z)
  (hsize:i.size=size) (hby:i.bytes=bytes) (hzs:z.cells.size=size) (hsz:0<size)
  (v:Value) (n:Nat) (xs:List Value) (hown:w1.ownsRow base e size v n xs) (hs:a.eval s=v)
  (news:List Value) {g:Nat} (hx:a.eval x = .slice (some ⟨g,0,none⟩) 1 1) (hg:g=w1.heap.size) (hl:news.length=size) (h1:∀u ∈ news,u.oneCell'=true)
  (h63:n+1≤maxLen) (hbytes:(n+1)*bytes≤140737488355328) (hbase:base≤w1.heap.size)
  (h:∀v' w',w'.ownsRow base e size v' (n+1) (xs++news)→w1.grownBy w' v.ownBlock→(v'.ownBlock=v.ownBlock∨v'.ownBlock=some (w1.heap.size+1))→wpList P ops Q rest (a.put o.dst v') w') :
  wpList P ops Q (o::rest) a (w1.alloc (.cells news.toArray e)):=by
 subst hg
 refine wpList_plain hgd fun _ hK=>?_
 obtain ⟨v',w',hr,h2,h3,_,h4⟩:=run_append_own_at (P:=P) (w1.alloc (.cells news.toArray e)) base t o.type e i z size bytes ht hi hz hsize hby hzs hsz v n xs (hown.alloc _) ⟨w1.heap.size,0,none⟩ 1 1 news
  (by rw [hl];simp) (fun j u hu=>by
   have hadd:(⟨w1.heap.size,0,none⟩:Addr).add j=⟨w1.heap.size,j,none⟩:=by unfold Addr.add;split <;> simp_all
   rw [hadd,cell_of_row _ _ j _ _ _ (heap_alloc_new w1 _)]
   simpa using hu) h1 h63 hbytes (by simp;omega)
 unfold Oper.wp execOp
 simp only [ho,resolve,invoke,builtin,Sem.run_bind,Sem.run_pure,Result.andThen_ok,List.map_toArray,List.map_cons,List.map_nil,hs,hx,hr]
 exact hK _ _ (h v' w' h2 (grown_trans (World.grownBy_alloc w1 _ _) h3) (by simpa using h4))
end Go.Proofs.YtgnfmopcialllaaGreatDoor
set_option linter.unusedSimpArgs false
set_option linter.unusedVariables false
namespace Go.Proofs.YtgnfmopcialllaaGreatDoor
open Go.RowKit
variable {α:Type}
def RepRow (R:α→List Value→Prop):List α→List Value→Prop
 | [],fl=>fl=[]
 | x::xs,fl=>∃vs rest,fl=vs++rest∧R x vs∧RepRow R xs rest
theorem RepRow.snoc {R:α→List Value→Prop} {x:α} {vs:List Value} (h:R x vs):∀ {xs:List α} {fl:List Value},RepRow R xs fl→RepRow R (xs++[x]) (fl++vs)
 | [],fl,hr=>by
  have:fl=[]:=hr
  subst this
  exact ⟨vs,[],by simp,h,rfl⟩
 | y::ys,fl,hr=>by
  obtain ⟨us,rest,rfl,h1,h2⟩:=hr
  exact ⟨us,rest++vs,by simp,h1,RepRow.snoc h h2⟩
theorem RepRow.imp {R R':α→List Value→Prop}:∀ {xs:List α} {fl:List Value},RepRow R xs fl→(∀x vs,x ∈ xs→R x vs→R' x vs)→RepRow R' xs fl
 | [],fl,hr,_=>hr
 | y::ys,fl,hr,h=>by
  obtain ⟨us,rest,rfl,h1,h2⟩:=hr
  exact ⟨us,rest,rfl,h y us (by simp) h1,h2.imp (fun x vs hx=>h x vs (by simp [hx]))⟩
theorem RepRow.get {R:α→List Value→Prop} {size:Nat} (hsz:∀x vs,R x vs→vs.length=size):∀ {xs:List α} {fl:List Value},RepRow R xs fl → ∀ {i:Nat} {x:α},xs[i]? = some x →
  ∃vs,R x vs∧∀j u,vs[j]? = some u→fl[i*size+j]? = some u
 | [],_,_,i,x,h=>by simp at h
 | y::ys,fl,hr,0,x,h=>by
  obtain ⟨us,rest,rfl,h1,h2⟩:=hr
  simp at h;subst h
  refine ⟨us,h1,fun j u hj=>?_⟩
  have:=(List.getElem?_eq_some_iff.1 hj).1
  rw [Nat.zero_mul,Nat.zero_add,List.getElem?_append_left this]
  exact hj
 | y::ys,fl,hr,i+1,x,h=>by
  obtain ⟨us,rest,rfl,h1,h2⟩:=hr
  obtain ⟨vs,h3,h4⟩:=RepRow.get hsz h2 (i:=i) (x:=x) (by simpa using h)
  refine ⟨vs,h3,fun j u hj=>?_⟩
  have hl:=hsz _ _ h1
  rw [List.getElem?_append_right (by rw [hl,Nat.succ_mul];omega),hl,show (i+1)*size+j - size=i*size+j by rw [Nat.succ_mul];omega]
  exact h4 j u hj
theorem RepRow.length {R:α→List Value→Prop} {size:Nat} (hsz:∀x vs,R x vs→vs.length=size):∀ {xs:List α} {fl:List Value},RepRow R xs fl→fl.length=xs.length*size
 | [],fl,hr=>by have:fl=[]:=hr;subst this;simp
 | y::ys,fl,hr=>by
  obtain ⟨us,rest,rfl,h1,h2⟩:=hr
  rw [List.length_append,hsz _ _ h1,h2.length hsz,List.length_cons,Nat.succ_mul];omega
def SliceIn (S:Nat→Prop) (size:Nat) (R:α→List Value→Prop) (w:World) (v:Value) (xs:List α):Prop :=
 ∃p cap,v = .slice p xs.length cap∧xs.length≤cap∧cap≤maxLen ∧
  ∀i x,xs[i]? = some x → ∃b off vs,p=some ⟨b,off,none⟩∧S b∧b<w.heap.size∧R x vs∧∀j u,vs[j]? = some u→w.cell? ⟨b,off+(i*size+j),none⟩=some u
theorem SliceIn.kept {S S':Nat→Prop} {size:Nat} {R R':α→List Value→Prop} {w w':World} {v:Value} {xs:List α} (h:SliceIn S size R w v xs)
  (hs:∀b,S b→S' b) (hz:w.heap.size≤w'.heap.size) (hb:∀b,S b→b<w.heap.size→w'.heap[b]? = w.heap[b]?) (hR:∀x vs,x ∈ xs→R x vs→R' x vs):SliceIn S' size R' w' v xs:=by
 obtain ⟨p,cap,hv,h1,h2,h3⟩:=h
 refine ⟨p,cap,hv,h1,h2,fun i x hi=>?_⟩
 obtain ⟨b,off,vs,hp,hS,hlt,hr,hc⟩:=h3 i x hi
 exact ⟨b,off,vs,hp,hs b hS,Nat.lt_of_lt_of_le hlt hz,hR x vs (List.mem_of_getElem? hi) hr,fun j u hj=>(World.cell?_of_block (hb b hS hlt)).trans (hc j u hj)⟩
theorem SliceIn.below {S:Nat→Prop} {size:Nat} {R R':α→List Value→Prop} {w w':World} {v:Value} {xs:List α} (h:SliceIn S size R w v xs) (hb:Below w.heap.size w w')
  (hR:∀x vs,x ∈ xs→R x vs→R' x vs):SliceIn S size R' w' v xs :=
 h.kept (fun _ h=>h) hb.size (fun b _ hlt=>hb.block b hlt) hR
theorem SliceIn.nil (S:Nat→Prop) (size:Nat) (R:α→List Value→Prop) (w:World):SliceIn S size R w (.slice none 0 0) []:=⟨none,0,rfl,Nat.le_refl _,Nat.zero_le _,fun i x h=>by simp at h⟩
theorem SliceIn.own {S:Nat→Prop} {size base e n:Nat} {R:α→List Value→Prop} {w:World} {v:Value} {fl:List Value} {xs:List α} (h:w.ownsRow base e size v n fl) (hr:RepRow R xs fl)
  (hsz:∀x vs,R x vs→vs.length=size) (hn:n=xs.length) (hS:∀b,v.ownBlock=some b→S b):SliceIn S size R w v xs:=by
 subst hn
 rcases h.2 with ⟨rfl,h0⟩ | ⟨g,cap,cur,rfl,hb,hg,hle,hm,hcs,hcur⟩
 ·
  refine ⟨none,0,by rw [h0],by omega,Nat.zero_le _,fun i x hi=>?_⟩
  have:=(List.getElem?_eq_some_iff.1 hi).1
  omega
 ·
  refine ⟨some ⟨g,0,none⟩,cap,rfl,hle,hm,fun i x hi=>?_⟩
  obtain ⟨vs,hrx,hvs⟩:=hr.get hsz hi
  refine ⟨g,0,vs,rfl,hS g rfl,(h.lt g rfl).2,hrx,fun j u hj=>?_⟩
  have h1:=hvs j u hj
  have h2:=(List.getElem?_eq_some_iff.1 h1).1
  rw [h.1] at h2
  rw [Nat.zero_add,World.ownsRow.cellAt h _ h2]
  exact h1
end Go.Proofs.YtgnfmopcialllaaGreatDoor
set_option linter.unusedSimpArgs false
set_option linter.unusedVariables false
namespace Go.Proofs.YtgnfmopcialllaaGreatDoor
open Go.RowKit
theorem byte_all (p:UInt8→Bool) (h:(List.range 256).all (fun n=>p (UInt8.ofNat n))=true) (c:UInt8):p c=true:=by
 have:=List.all_eq_true.1 h c.toNat (List.mem_range.2 c.toNat_lt)
 simpa using this
theorem index_sign (c:UInt8) (h:¬(97≤c.toNat∧c.toNat≤122)) (h2:¬(65≤c.toNat∧c.toNat≤90)) (h3:¬(48≤c.toNat∧c.toNat≤57)):decide (0≤Lib.indexByte [45,46,95,58] c)=Ent.sign c:=by
 have:=byte_all (fun c=>(decide (97≤c.toNat∧c.toNat≤122)) || (decide (65≤c.toNat∧c.toNat≤90)) || decide (48≤c.toNat∧c.toNat≤57) || (decide (0≤Lib.indexByte [45,46,95,58] c) == Ent.sign c)) (by decide +kernel) c
 simpa [h,h2,h3] using this
theorem toU8 (c:UInt8):((c.toNat:Int)).toNat.toUInt8=c:=by simp
set_option maxHeartbeats 800000 in
theorem entry_sign (c:UInt8) (w:World) :
  Calls Tryz.prog 172 #[.int .u8 (c.toNat:Int)] w fun e w'=>e = .returned (.bool (Ent.sign c))∧w=w':=by
 have hc:=c.toNat_lt
 have hlow:=toU8 c
 have hi:=index_sign c
 obtain ⟨n,hn⟩:∃n,c.toNat=n:=⟨_,rfl⟩
 have hs:(97≤n∧n≤122)∨(65≤n∧n≤90)∨(48≤n∧n≤57)→Ent.sign c=true:=by
  intro h
  unfold Ent.sign
  rcases h with h | h | h <;> simp [hn,h.1,h.2]
 rw [hn] at hi hlow hc ⊢
 have Hi:=η hi;have Hs:=η hs;have Hlow:=η hlow
 clear hi hs hlow hn
 have hz:(n<48)∨(48≤n∧n≤57)∨(58≤n∧n≤64)∨(65≤n∧n≤90)∨(91≤n∧n≤96)∨(97≤n∧n≤122)∨(123≤n):=by omega
 rcases hz with hz | hz | hz | hz | hz | hz | hz
 all_goals
  go_enter Tryz.func172, Tryz.ntmps172
  go_wp2_with (go_at_call 58; refine (Tryz.strings_IndexByte _ _ _).mono ?_;rintro e w' ⟨rfl,rfl⟩;rw [Hlow.out])
  go_ret
  first
   | exact ⟨ret_bool (Hs.out (by omega)).symm,rfl⟩
   | (
     refine ⟨ret_bool ?_,rfl⟩
     rw [←Hi.out (by omega) (by omega) (by omega)]
     try rw [show decide ((n:Int)≤122)=false by simp;omega]
     try rw [show decide ((n:Int)≤90)=false by simp;omega]
     try rw [show decide ((n:Int)≤57)=false by simp;omega]
     try simp only [Bool.false_or])
end Go.Proofs.YtgnfmopcialllaaGreatDoor
set_option linter.unusedSimpArgs false
set_option linter.unusedVariables false
namespace Go.Proofs.YtgnfmopcialllaaGreatDoor
open Go.RowKit
structure ByteRow (w:World) (g:Nat) (l:List UInt8):Prop where
 lt:g<w.heap.size
 cell:∀(j:Nat) (x:UInt8),l[j]? = some x→w.cell? ⟨g,j,none⟩=some (.int .u8 (x.toNat:Int))
 free:∀j:Nat,j<l.length→w.frozen? ⟨g,j,none⟩=false
theorem ByteRow.set {w:World} {g:Nat} {l:List UInt8} (h:ByteRow w g l) (k:Nat) (hk:k<l.length) (c:UInt8):ByteRow (w.setCell ⟨g,k,none⟩ (.int .u8 (c.toNat:Int))) g (l.set k c):=by
 refine ⟨by simpa using h.lt,fun j x hj=>?_,fun j hj=>by simpa using h.free j (by simpa using hj)⟩
 by_cases hjk:j=k
 ·
  subst hjk
  rw [List.getElem?_set_self hk] at hj
  cases hj
  exact World.cell?_setCell_same _ _ _ (h.cell j _ (List.getElem?_eq_getElem hk))
 ·
  rw [List.getElem?_set_ne (fun e=>hjk e.symm)] at hj
  rw [World.cell?_setCell_other _ _ _ _ (fun e=>hjk (by cases e;rfl))]
  exact h.cell j x hj
theorem ByteRow.drew {w:World} {g:Nat} {l:List UInt8} (h:ByteRow w g l):ByteRow w.drew g l:=⟨h.lt,h.cell,h.free⟩
theorem ByteRow.below {w w':World} {g:Nat} {l:List UInt8} (h:ByteRow w g l) (b:Below w.heap.size w w'):ByteRow w' g l :=
 ⟨Nat.lt_of_lt_of_le h.lt b.size,fun j x hj=>(b.cell (p:=⟨g,j,none⟩) h.lt).trans (h.cell j x hj),fun j hj=>(b.frozen (p:=⟨g,j,none⟩) h.lt).trans (h.free j hj)⟩
theorem byteRow_new (w:World) (l:List UInt8) (cap:Nat) (e:TypeId) (hc:l.length≤cap) :
  ByteRow (w.drew.alloc (.cells (bytesRow ⟨l.toArray⟩ cap) e ((bytesRow ⟨l.toArray⟩ cap).size,(bytesRow ⟨l.toArray⟩ cap).size+1))) w.heap.size l:=by
 have hg:(w.drew.alloc (.cells (bytesRow ⟨l.toArray⟩ cap) e ((bytesRow ⟨l.toArray⟩ cap).size,(bytesRow ⟨l.toArray⟩ cap).size+1))).heap[w.heap.size]? = some (.cells (bytesRow ⟨l.toArray⟩ cap) e ((bytesRow ⟨l.toArray⟩ cap).size,(bytesRow ⟨l.toArray⟩ cap).size+1)):=heap_alloc_new w.drew _
 refine ⟨by simp [World.alloc],fun j x hj=>?_,fun j hj=>?_⟩
 ·
  rw [cell_of_row _ _ _ _ _ _ hg]
  obtain ⟨hj',e⟩:=List.getElem?_eq_some_iff.1 hj
  rw [bytesRow_at _ _ _ (by simpa using hj')]
  simp [e]
 ·
  unfold World.frozen?
  rw [hg]
  have:(bytesRow ⟨l.toArray⟩ cap).size=cap:=by simp [bytesRow,ByteArray.size];omega
  simp [this];omega
end Go.Proofs.YtgnfmopcialllaaGreatDoor
set_option linter.unusedSimpArgs false
set_option linter.unusedVariables false
namespace Go.Proofs.YtgnfmopcialllaaGreatDoor
open Go.RowKit
def smallTo (k:Nat) (l:List UInt8):List UInt8:=Ent.small (l.take k)++l.drop k
theorem smallTo_length (k:Nat) (l:List UInt8):(smallTo k l).length=l.length:=by
 unfold smallTo Ent.small
 simp;omega
theorem smallTo_get (k:Nat) (l:List UInt8) (x:UInt8) (h:l[k]? = some x):(smallTo k l)[k]? = some x:=by
 obtain ⟨hk,e⟩:=List.getElem?_eq_some_iff.1 h
 unfold smallTo Ent.small
 rw [List.getElem?_append_right (by simp;omega)]
 simp [Nat.min_eq_left (Nat.le_of_lt hk),h]
theorem smallTo_step (k:Nat) (l:List UInt8) (x:UInt8) (h:l[k]? = some x):smallTo (k+1) l=(smallTo k l).set k (Ent.low x):=by
 obtain ⟨hk,e⟩:=List.getElem?_eq_some_iff.1 h
 unfold smallTo Ent.small
 rw [List.take_add_one,h,List.set_append_right _ _ (by simp;omega)]
 rw [List.drop_eq_getElem_cons hk,e]
 simp [Nat.min_eq_left (Nat.le_of_lt hk)]
set_option maxRecDepth 100000 in
set_option maxHeartbeats 400000 in
theorem entry_small (l:List UInt8) (w:World) (hl:l.length≤maxLen) :
  Calls Tryz.prog 122 #[.string ⟨l.toArray⟩] w fun e w'=>e = .returned (.string ⟨(Ent.small l).toArray⟩)∧Below w.heap.size w w':=by
 have hmax:l.length≤9223372036854775807:=by unfold maxLen at hl;omega
 obtain ⟨cap,hcap⟩:∃cap,cap=grownCap w l.length 0 5 := ⟨_,rfl⟩
 have hcl:l.length≤cap:=by rw [hcap];exact grownCap_ge w l.length 0 5
 obtain ⟨W,hW⟩:∃W,W=w.drew.alloc (.cells (bytesRow ⟨l.toArray⟩ cap) 5 ((bytesRow ⟨l.toArray⟩ cap).size,(bytesRow ⟨l.toArray⟩ cap).size+1)):=⟨_,rfl⟩
 have hcv:(convert 9 189 (.string ⟨l.toArray⟩)).run Tryz.prog w = .ok (.slice (some ⟨w.heap.size,0,none⟩) l.length cap) W:=by
  rw [hW,run_bytes_of_string (P:=Tryz.prog) w 9 189 5 ⟨l.toArray⟩ Tryz.underlying9 Tryz.underlying189 Tryz.underlying5, size_mk,←hcap]
 have hrow:ByteRow W w.heap.size l:=by rw [hW];exact byteRow_new w l cap 5 hcl
 have hbW:Below w.heap.size w W:=by rw [hW];exact ((Below.refl w.heap.size w).drew).alloc (Nat.le_refl _) _
 clear hW hcap hl
 have Hrow:=η hrow;have HbW:=η hbW;clear hrow hbW
 go_enter Tryz.func122, Tryz.ntmps122
 go_wp2_with fail
 clear hcv
 go_loopw [10] (fun i wr=>∃k:Nat,k≤l.length∧i = .int .i64 k∧ByteRow wr w.heap.size (smallTo k l)∧Below w.heap.size w wr) (fun i _=>l.length - (intOf i).toNat)
 case atStart=>exact ⟨0,Nat.zero_le _,rfl,by simpa [smallTo,Ent.small] using Hrow.out,HbW.out⟩
 case round =>
  clear Hrow HbW
  obtain ⟨k,hk,rfl,hrow,hb⟩:=hrel
  by_cases hlt:k<l.length
  ·
   obtain ⟨x,hx⟩:∃x,l[k]? = some x:=⟨_,List.getElem?_eq_getElem hlt⟩
   have e0:=hrow.cell k x (smallTo_get k l x hx)
   have f0:=hrow.free k (by rw [smallTo_length];exact hlt)
   have hlt':(k:Int)<(l.length:Int):=by omega
   have Hrow:=η hrow;have Hb:=η hb;have Hx:=η hx
   clear hrow hb hx
   have hx256:=x.toNat_lt
   by_cases hup:65≤x.toNat∧x.toNat≤90
   ·
    have g1:(65:Int)≤(x.toNat:Int):=by omega
    have g2:(x.toNat:Int)≤90:=by omega
    obtain ⟨c,hc⟩:∃c:UInt8,c=x+32:=⟨_,rfl⟩
    have hlow:Ent.low x=c:=by unfold Ent.low;rw [if_pos hup,hc]
    have hw1:IntKind.u8.wrap ((x.toNat:Int)+97)=(x.toNat:Int)+97:=IntWalk.u8_in _ (by omega)
    have hw2:IntKind.u8.wrap ((x.toNat:Int)+97 - 65)=(c.toNat:Int):=by
     rw [IntWalk.u8_in _ (by omega),hc,UInt8.toNat_add]
     simp
     omega
    clear hc
    have Hlow:=η hlow
    clear hup hlow
    go_wp2_with fail
    go_roundw
    case rel =>
     refine ⟨k+1,by omega,by go_num,?_,?_⟩
     ·
      rw [smallTo_step k l x Hx.out,Hlow.out]
      exact Hrow.out.set k (by rw [smallTo_length];exact hlt) c
     ·
      exact Hb.out.setCell (Nat.le_refl _) _
    case measure=>simp [intOf];omega
   ·
    have hlow:Ent.low x=x:=by unfold Ent.low;rw [if_neg hup]
    have Hlow:=η hlow
    clear hlow
    have hsame:smallTo (k+1) l=smallTo k l:=by
     rw [smallTo_step k l x Hx.out,Hlow.out]
     have h:=smallTo_get k l x Hx.out
     obtain ⟨h1,h2⟩:=List.getElem?_eq_some_iff.1 h
     rw [←h2]
     exact List.set_getElem_self h1
    have Hsame:=η hsame;clear hsame
    by_cases h65:65≤x.toNat
    ·
     have g1:(65:Int)≤(x.toNat:Int):=by omega
     have g2:¬(x.toNat:Int)≤90:=by omega
     clear hup
     go_wp2_with fail
     go_roundw
     case rel=>exact ⟨k+1,by omega,by go_num,by rw [Hsame.out];exact Hrow.out,Hb.out⟩
     case measure=>simp [intOf];omega
    ·
     have g1:¬(65:Int)≤(x.toNat:Int):=by omega
     clear hup
     go_wp2_with fail
     go_roundw
     case rel=>exact ⟨k+1,by omega,by go_num,by rw [Hsame.out];exact Hrow.out,Hb.out⟩
     case measure=>simp [intOf];omega
  ·
   have hkl:k=l.length:=by omega
   have hst:smallTo k l=Ent.small l:=by unfold smallTo;rw [hkl];simp
   rw [hst] at hrow
   have hlen:(Ent.small l).length=l.length:=by unfold Ent.small;simp
   have hback:=run_convert_bytes_back (P:=Tryz.prog) wr 189 9 5 ⟨w.heap.size,0,none⟩ cap (Ent.small l) Tryz.underlying189 Tryz.underlying5 Tryz.underlying9 (fun j hj=>by
    rw [Addr.add_lit,Nat.zero_add]
    exact hrow.cell j _ (List.getElem?_eq_getElem hj))
   rw [hlen] at hback
   have Hb:=η hb;clear hb hrow hst
   go_wp2_with fail
   go_ret
   exact ⟨rfl,Hb.out⟩
end Go.Proofs.YtgnfmopcialllaaGreatDoor
set_option linter.unusedSimpArgs false
set_option linter.unusedVariables false
namespace Go.Proofs.YtgnfmopcialllaaGreatDoor
open Go.RowKit
namespace Ent
structure Fld where
 name:List UInt8
 text:List UInt8
structure Ent where
 kind:List UInt8
 key:List UInt8
 fields:List Fld
def get (fs:List Fld) (name:List UInt8):List UInt8 × Bool :=
 match fs.find? (fun f=>f.name == name) with
 | some f=>(f.text,true)
 | none=>([],false)
end Ent
def RFld (f:Ent.Fld) (vs:List Value):Prop:=vs=[.string ⟨f.name.toArray⟩,.string ⟨f.text.toArray⟩]
theorem RFld.size (f:Ent.Fld) (vs:List Value) (h:RFld f vs):vs.length=2:=by rw [h];rfl
def REnt (S:Nat→Prop) (w:World) (x:Ent.Ent) (vs:List Value):Prop:=∃vf,vs=[.string ⟨x.kind.toArray⟩,.string ⟨x.key.toArray⟩,vf]∧SliceIn S 2 RFld w vf x.fields
theorem REnt.size {S:Nat→Prop} {w:World} (x:Ent.Ent) (vs:List Value) (h:REnt S w x vs):vs.length=3:=by obtain ⟨vf,rfl,_⟩:=h;rfl
def Ents (S:Nat→Prop) (w:World) (v:Value) (l:List Ent.Ent):Prop:=SliceIn S 3 (REnt S w) w v l
theorem REnt.kept {S S':Nat→Prop} {w w':World} {x:Ent.Ent} {vs:List Value} (h:REnt S w x vs) (hs:∀b,S b→S' b) (hz:w.heap.size≤w'.heap.size) (hb:∀b,S b→b<w.heap.size→w'.heap[b]? = w.heap[b]?):REnt S' w' x vs:=by
 obtain ⟨vf,rfl,h⟩:=h
 exact ⟨vf,rfl,h.kept hs hz hb (fun _ _ _ h=>h)⟩
theorem Ents.kept {S S':Nat→Prop} {w w':World} {v:Value} {l:List Ent.Ent} (h:Ents S w v l) (hs:∀b,S b→S' b) (hz:w.heap.size≤w'.heap.size) (hb:∀b,S b→b<w.heap.size→w'.heap[b]? = w.heap[b]?):Ents S' w' v l :=
 SliceIn.kept h hs hz hb (fun _ _ _ h=>h.kept hs hz hb)
theorem Ents.below {S:Nat→Prop} {w w':World} {v:Value} {l:List Ent.Ent} (h:Ents S w v l) (hb:Below w.heap.size w w'):Ents S w' v l :=
 Ents.kept h (fun _ h=>h) hb.size (fun b _ hlt=>hb.block b hlt)
theorem lt_alloc (w:World) (o:Obj):w.heap.size<(w.alloc o).heap.size:=by
 show w.heap.size<(w.heap.push o).size
 rw [Array.size_push];omega
set_option maxRecDepth 100000 in
set_option maxHeartbeats 400000 in
theorem entry_get (fs:List Ent.Fld) (v0 v1 vF:Value) (name:List UInt8) (S:Nat→Prop) (w:World) (hF:SliceIn S 2 RFld w vF fs) :
  Calls Tryz.prog 127 #[.agg #[v0,v1,vF],.string ⟨name.toArray⟩] w fun e w'=>e = .returned (.tuple #[.string ⟨(Ent.get fs name).1.toArray⟩,.bool (Ent.get fs name).2])∧Below w.heap.size w w':=by
 obtain ⟨p,cap,rfl,hle,hm,hat⟩:=hF
 have hlm:fs.length≤9223372036854775807:=by unfold maxLen at hm;omega
 have Hat:=η hat;clear hat hm hle
 go_enter Tryz.func127, Tryz.ntmps127
 go_wp2_with fail
 go_loopw [11] (fun i wr=>∃k:Nat,k≤fs.length∧i = .int .i64 k∧(fs.take k).find? (fun f=>f.name == name)=none∧Below w.heap.size w wr∧w.heap.size<wr.heap.size) (fun i _=>fs.length - (intOf i).toNat)
 case atStart=>exact ⟨0,Nat.zero_le _,rfl,rfl,(Below.refl _ _).alloc (Nat.le_refl _) _,lt_alloc _ _⟩
 case round =>
  obtain ⟨k,hk,rfl,hno,hb,hz⟩:=hrel
  have Hno:=η hno;clear hno
  by_cases hlt:k<fs.length
  ·
   obtain ⟨f,hf⟩:∃f,fs[k]? = some f:=⟨_,List.getElem?_eq_getElem hlt⟩
   obtain ⟨b,off,vs,rfl,_,hbw,hR,hc⟩:=Hat.out k f hf
   subst hR
   have e0:wr.cell? ⟨b,off+k*2,none⟩=some (.string ⟨f.name.toArray⟩):=(hb.cell (p:=⟨b,off+k*2,none⟩) hbw).trans (hc 0 _ rfl)
   have e1:wr.cell? ⟨b,off+k*2+1,none⟩=some (.string ⟨f.text.toArray⟩):=(hb.cell (p:=⟨b,off+k*2+1,none⟩) hbw).trans (hc 1 _ rfl)
   have hfind:fs.find? (fun f=>f.name == name)=if (f.name == name)=true then some f else (fs.drop (k+1)).find? (fun f=>f.name == name):=by
    obtain ⟨hk',e⟩:=List.getElem?_eq_some_iff.1 hf
    conv=>lhs;rw [←List.take_append_drop k fs,List.find?_append,Hno.out,Option.none_or,List.drop_eq_getElem_cons hk',e]
    rw [List.find?_cons]
    cases hp:(f.name == name) <;> rfl
   have hstep:(f.name == name)=false→(fs.take (k+1)).find? (fun f=>f.name == name)=none:=by
    intro h
    rw [List.take_add_one,hf,List.find?_append,Hno.out]
    simp [h]
   have Hfind:=η hfind;have Hstep:=η hstep;have Hb:=η hb
   have hlt':(k:Int)<(fs.length:Int):=by omega
   have hkl:(k:Int)+1≤9223372036854775807:=by omega
   clear hc hf hb hfind hstep
   cases hp:(f.name == name)
   ·
    have Hp:=η hp
    go_wp2_with fail
    go_roundw
    case rel=>exact ⟨k+1,by omega,by go_num,Hstep.out Hp.out,(Hb.out.alloc (Nat.le_of_lt hz) _),Nat.lt_trans hz (lt_alloc _ _)⟩
    case measure=>simp [intOf];omega
   ·
    have Hp:=η hp
    go_wp2_with fail
    go_ret2
    refine ⟨?_,(Hb.out.alloc (Nat.le_of_lt hz) _)⟩
    unfold Ent.get
    rw [Hfind.out,Hp.out]
    rfl
  ·
   go_wp2_with fail
   go_ret2
   refine ⟨?_,hb⟩
   have h:=Hno.out
   rw [List.take_of_length_le (by omega)] at h
   unfold Ent.get
   rw [h]
   rfl
end Go.Proofs.YtgnfmopcialllaaGreatDoor
set_option linter.unusedSimpArgs false
set_option linter.unusedVariables false
namespace Go.Proofs.YtgnfmopcialllaaGreatDoor
open Go.RowKit
open Go.Maps (Keyed)
open Go.MapKept Go.WideElems
def IMap (w:World) (b n:Nat) (f:List UInt8→Int):Prop :=
 ∃D:DataW Unit,w.ownsMap Tryz.prog 9 (plainElem Tryz.prog 3) b n D∧∀s:List UInt8,D.atKey (.string s) (.lit (.int .i64 0)) = .lit (.int .i64 (f s))
theorem skeyed:Keyed Tryz.prog 9 := Maps.string_keyed Tryz.underlying9
theorem skey (s:List UInt8) (hs:s.length≤maxLen):keyOf Tryz.prog 9 (.string ⟨s.toArray⟩)=some (.string s):=by
 have:=WideMaps.keyOf_string_mk (P:=Tryz.prog) Tryz.underlying9 (s:=⟨s.toArray⟩) (by simpa [ByteArray.size] using hs)
 simpa using this
theorem skeylit (s:List UInt8):WideAt.IsKeyLit (.string s):=by
 first | exact trivial | simp [Go.WideAt.IsKeyLit]
theorem zero_int (w:World):(zeroValue 3).run Tryz.prog w = .ok (.int .i64 0) w:=by kernel_rfl
theorem IMap.made (w:World):IMap (w.alloc (.map #[] 0)) w.heap.size 0 (fun _=>0):=⟨.map [],World.ownsMap_made w _ _ _,fun _=>rfl⟩
theorem IMap.lt {w:World} {b n:Nat} {f:List UInt8→Int} (h:IMap w b n f):b<w.heap.size:=let ⟨_,h,_⟩:=h;h.lt
theorem IMap.kept {w w':World} {b n:Nat} {f:List UInt8→Int} (h:IMap w b n f) (hb:w'.heap[b]? = w.heap[b]?):IMap w' b n f:=by
 obtain ⟨D,⟨es,clock,hb',F,hs,hD⟩,hf⟩:=h
 exact ⟨D,⟨es,clock,hb.trans hb',F,hs,hD⟩,hf⟩
theorem IMap.below {w w':World} {b n:Nat} {f:List UInt8→Int} (h:IMap w b n f) (hb:Below w.heap.size w w'):IMap w' b n f:=h.kept (hb.block b h.lt)
theorem IMap.mono {w:World} {b n n':Nat} {f:List UInt8→Int} (h:IMap w b n f) (hn:n≤n'):IMap w b n' f:=let ⟨D,h1,h2⟩:=h;⟨D,h1.mono hn,h2⟩
section
variable {w:World} {ops:Array Oper} {rest:List Oper} {o:Oper} {a:Act} {Q:Exit→Act→World→Prop}
theorem wpList_imap_look (hg:o.guard=none) (m x:Operand) (hop:o.op=Op.lookup 102 m x false) (b n:Nat) (f:List UInt8→Int) (hm:a.eval m = .map (some b)) (hown:IMap w b n f)
  (s:List UInt8) (hx:a.eval x = .string ⟨s.toArray⟩) (hs:s.length≤maxLen) (hK:wpList Tryz.prog ops Q rest (a.put o.dst (.int .i64 (f s))) w) :
  wpList Tryz.prog ops Q (o::rest) a w:=by
 obtain ⟨D,h1,h2⟩:=hown
 refine wpList_lookup_own_int w hg m x 102 hop 9 3 .i64 skeyed Tryz.underlying102 Tryz.underlying3 (zero_int w) b n D hm h1 _ _ hx (skey s hs) ?_
 intro c hat _
 rw [h2 s] at hat
 injection hat with hat
 injection hat with _ hat
 rw [←hat]
 exact hK
theorem wpList_imap_store (hg:o.guard=none) (m x v:Operand) (hop:o.op=Op.mapUpdate 102 m x v) (b n:Nat) (f:List UInt8→Int) (hm:a.eval m = .map (some b)) (hown:IMap w b n f)
  (s:List UInt8) (hx:a.eval x = .string ⟨s.toArray⟩) (hs:s.length≤maxLen) (hn:n<maxLen) (c:Int) (hv:a.eval v = .int .i64 c) (hc:-9223372036854775808≤c∧c≤9223372036854775807)
  (hK:∀w',IMap w' b (n+1) (fun t=>if t=s then c else f t)→w.grownBy w' (some b)→wpList Tryz.prog ops Q rest (a.put o.dst undef) w') :
  wpList Tryz.prog ops Q (o::rest) a w:=by
 obtain ⟨D,h1,h2⟩:=hown
 have hwf:(Lit.int IntKind.i64 c).wf=true:=by
  have h1:IntKind.i64.min = -9223372036854775808:=by decide
  have h2:IntKind.i64.max=9223372036854775807:=by decide
  show (decide (IntKind.i64.min≤c)&&decide (c≤IntKind.i64.max))=true
  rw [h1,h2]
  simp [hc.1,hc.2]
 refine wpList_mapUpdate_own w hg m x v 102 hop 9 3 skeyed Tryz.underlying102 _ b n D hm h1 hn _ _ _ hx hv (skey s hs) (.lit (.int .i64 c)) [] (plainElem_int Tryz.underlying3 hwf) ?_
 intro w' h3 h4
 refine hK w' ⟨_,h3,fun t=>?_⟩ h4
 show DataW.atKey _ _ _ = .lit (.int .i64 (if t=s then c else f t))
 by_cases ht:t=s
 ·
  rw [if_pos ht,ht]
  exact Maps.atKey_put_same (h1.isMap) (skeylit s) _ _
 ·
  rw [if_neg ht,←h2 t]
  exact Maps.atKey_put_other (by intro e;injection e with e;exact ht e) _ _
end
end Go.Proofs.YtgnfmopcialllaaGreatDoor
set_option linter.unusedSimpArgs false
set_option linter.unusedVariables false
namespace Go.Proofs.YtgnfmopcialllaaGreatDoor.Ent
def blank (c:UInt8):Bool:=c == 32 || c == 9 || c == 10
def bl (l:List UInt8):List UInt8:=l.dropWhile blank
def hd:List UInt8→Int | []=>0 | x::_=>(x.toNat:Int)
def isB (c:UInt8) (l:List UInt8):Bool:=match bl l with | []=>false | x::_=>x == c
def isL (c:UInt8) (l:List UInt8):List UInt8:=match bl l with | []=>[] | x::r=>if x == c then r else x::r
def err (l:List UInt8):Int:=if l.isEmpty then 6 else 5
def mark (l:List UInt8):Option (List UInt8) × List UInt8 :=
 let m:=(bl l).takeWhile sign
 (if m.isEmpty then none else some m,(bl l).dropWhile sign)
def quoted (l:List UInt8):Option (List UInt8) × List UInt8 :=
 match l.dropWhile (fun c=>!(c == 34)) with
 | []=>(none,[])
 | _::r=>(some (l.takeWhile (fun c=>!(c == 34))),r)
def brace:Nat→List UInt8→List UInt8→Option (List UInt8) × List UInt8
 | _,_,[]=>(none,[])
 | deep,acc,x::r =>
  let d:=if x == 123 then deep+1 else if x == 125 then deep - 1 else deep
  if d == 0 then (some acc,r) else brace d (acc++[x]) r
def braced (l:List UInt8):Option (List UInt8) × List UInt8:=brace 1 [] l
def digit (c:UInt8):Bool:=decide (48≤c.toNat)&&decide (c.toNat≤57)
structure RS where
 rest:List UInt8
 kind:List UInt8
 names:List UInt8→Option (List UInt8)
 notes:List (Int × List UInt8)
def RS.at (σ:RS) (l:List UInt8):RS:={ σ with rest:=l }
def RS.note (σ:RS) (e:Int) (s:List UInt8):RS:={ σ with notes:=σ.notes++[(e,s)] }
def part (σ:RS):Option (List UInt8) × RS :=
 if isB 34 σ.rest then ((quoted (isL 34 σ.rest)).1,σ.at (quoted (isL 34 σ.rest)).2)
 else if isB 123 σ.rest then ((braced (isL 123 σ.rest)).1,σ.at (braced (isL 123 σ.rest)).2)
 else match (mark σ.rest).1 with
  | none=>(none,σ.at (mark σ.rest).2)
  | some m =>
   if (small m).all digit then (some (small m),σ.at (mark σ.rest).2)
   else match σ.names (small m) with
    | some t=>(some t,σ.at (mark σ.rest).2)
    | none=>(some [],(σ.at (mark σ.rest).2).note 4 (small m))
def valueN:Nat→List UInt8→RS→Option (List UInt8) × RS
 | 0,_,σ=>(none,σ)
 | n+1,acc,σ =>
  match (part σ).1 with
  | none=>(none,(part σ).2)
  | some t =>
   if isB 35 (part σ).2.rest then valueN n ((acc++t).take 1000) ((part σ).2.at (isL 35 (part σ).2.rest))
   else (some ((acc++t).take 1000),(part σ).2.at (isL 35 (part σ).2.rest))
def value (σ:RS):Option (List UInt8) × RS:=valueN (σ.rest.length+1) [] σ
def markS (σ:RS):Option (List UInt8) × RS:=((mark σ.rest).1,σ.at (mark σ.rest).2)
def pair (σ:RS):Option (List UInt8 × List UInt8) × RS :=
 match (markS σ).1 with
 | none=>(none,(markS σ).2)
 | some m =>
  if isB 61 (markS σ).2.rest then
   match (value ((markS σ).2.at (isL 61 (markS σ).2.rest))).1 with
   | none=>(none,(value ((markS σ).2.at (isL 61 (markS σ).2.rest))).2)
   | some t=>(some (small m,t),(value ((markS σ).2.at (isL 61 (markS σ).2.rest))).2)
  else (none,(markS σ).2.at (isL 61 (markS σ).2.rest))
def fieldsN:Nat→List Fld→RS→Option (List Fld) × RS
 | 0,_,σ=>(none,σ)
 | n+1,fs,σ =>
  if isB 125 σ.rest then (some fs,σ.at (isL 125 σ.rest))
  else if isB 44 (isL 125 σ.rest) then
   if isB 125 (isL 44 (isL 125 σ.rest)) then (some fs,σ.at (isL 125 (isL 44 (isL 125 σ.rest))))
   else match (pair (σ.at (isL 125 (isL 44 (isL 125 σ.rest))))).1 with
    | none=>(none,(pair (σ.at (isL 125 (isL 44 (isL 125 σ.rest))))).2)
    | some (m,t) =>
     if (get fs m).2 then fieldsN n fs ((pair (σ.at (isL 125 (isL 44 (isL 125 σ.rest))))).2.note 12 m)
     else fieldsN n (fs++[⟨m,t⟩]) (pair (σ.at (isL 125 (isL 44 (isL 125 σ.rest))))).2
  else (none,σ.at (isL 44 (isL 125 σ.rest)))
def strW:List UInt8:=[115,116,114,105,110,103]
def entryS (σ2:RS):Option (Option Ent) × RS :=
 match (pair σ2).1 with
 | none=>(none,(pair σ2).2)
 | some (m,t) =>
  if isB 125 (pair σ2).2.rest then (some none,{ (pair σ2).2.at (isL 125 (pair σ2).2.rest) with names:=fun x=>if x=m then some t else (pair σ2).2.names x })
  else (none,(pair σ2).2.at (isL 125 (pair σ2).2.rest))
def entryK (u:List UInt8) (σ2:RS):Option (Option Ent) × RS :=
 match (mark σ2.rest).1 with
 | none=>(none,σ2.at (mark σ2.rest).2)
 | some y =>
  match (fieldsN (σ2.rest.length+1) [] (σ2.at (mark σ2.rest).2)).1 with
  | none=>(none,(fieldsN (σ2.rest.length+1) [] (σ2.at (mark σ2.rest).2)).2)
  | some fs=>(some (some ⟨u,y,fs⟩),(fieldsN (σ2.rest.length+1) [] (σ2.at (mark σ2.rest).2)).2)
def entryB (u:List UInt8) (σ1:RS):Option (Option Ent) × RS :=
 if isB 123 σ1.rest then
  if u=strW then entryS (σ1.at (isL 123 σ1.rest)) else entryK u (σ1.at (isL 123 σ1.rest))
 else (none,σ1.at (isL 123 σ1.rest))
def entry (σ:RS):Option (Option Ent) × RS :=
 match (mark σ.rest).1 with
 | none=>(none,{ σ with rest:=(mark σ.rest).2,kind:=[] })
 | some k=>entryB (small k) { σ with rest:=(mark σ.rest).2,kind:=small k }
def has (l:List Ent) (key:List UInt8):Bool:=l.any (fun x=>x.key == key)
def parseN:Nat→List Ent→RS→List Ent × RS
 | 0,out,σ=>(out,σ)
 | n+1,out,σ =>
  match σ.rest.dropWhile (fun c=>!(c == 64)) with
  | []=>(out,σ)
  | _::l =>
   match (entry (σ.at l)).1 with
   | none=>parseN n out ((entry (σ.at l)).2.note (err (entry (σ.at l)).2.rest) (entry (σ.at l)).2.kind)
   | some none=>parseN n out (entry (σ.at l)).2
   | some (some x)=>if has out x.key then parseN n out ((entry (σ.at l)).2.note 12 x.key) else parseN n (out++[x]) (entry (σ.at l)).2
def parse (s:List UInt8):List Ent × List (Int × List UInt8) :=
 let r:=parseN (s.length+1) [] ⟨s,[],fun _=>none,[]⟩
 (r.1,r.2.notes)
theorem bl_len (l:List UInt8):(bl l).length≤l.length:=by unfold bl;exact List.Sublist.length_le (List.dropWhile_sublist _)
theorem isL_len (c:UInt8) (l:List UInt8):(isL c l).length≤l.length:=by
 have:=bl_len l
 unfold isL
 cases h:bl l with
 | nil=>simp
 | cons x r=>rw [h] at this;simp at this;dsimp only;split <;> simp <;> omega
theorem isL_lt (c:UInt8) (l:List UInt8) (hb:isB c l=true):(isL c l).length<l.length:=by
 have:=bl_len l
 unfold isB at hb;unfold isL
 cases h:bl l with
 | nil=>rw [h] at hb;simp at hb
 | cons x r=>rw [h] at this hb;simp at this hb;simp [hb];omega
theorem dropWhile_len {α:Type} (p:α→Bool) (l:List α):(l.dropWhile p).length≤l.length:=List.Sublist.length_le (List.dropWhile_sublist _)
theorem mark_len (l:List UInt8):(mark l).2.length≤l.length:=by
 unfold mark
 exact Nat.le_trans (dropWhile_len _ _) (bl_len l)
theorem mark_lt (l m:List UInt8) (h:(mark l).1=some m):m≠[]∧(mark l).2.length<l.length:=by
 unfold mark at h ⊢
 dsimp only at h ⊢
 split at h
 ·
  cases h
 ·
  rename_i hne
  cases h
  have h0:(bl l).takeWhile sign≠[]:=by intro e;rw [e] at hne;simp at hne
  refine ⟨h0,?_⟩
  have h1:=congrArg List.length (List.takeWhile_append_dropWhile (p:=sign) (l:=bl l))
  rw [List.length_append] at h1
  have h2:=List.length_pos_iff.2 h0
  have h3:=bl_len l
  omega
theorem quoted_len (l:List UInt8):(quoted l).2.length≤l.length:=by
 have:=dropWhile_len (fun c:UInt8=>!(c == 34)) l
 unfold quoted
 cases h:l.dropWhile (fun c=>!(c == 34)) with
 | nil=>simp
 | cons x r=>rw [h] at this;simp at this;simp;omega
theorem brace_len:∀(l:List UInt8) (d:Nat) (acc:List UInt8),(brace d acc l).2.length≤l.length
 | [],_,_=>by simp [brace]
 | x::r,d,acc=>by
  unfold brace
  dsimp only
  generalize (if x == 123 then d+1 else if x == 125 then d - 1 else d)=d'
  cases d' with
  | zero=>simp
  | succ k =>
   have:=brace_len r (k+1) (acc++[x])
   simp
   omega
theorem bl_bl (l:List UInt8):bl (bl l)=bl l:=by
 unfold bl
 induction l with
 | nil=>rfl
 | cons x l ih =>
  rw [List.dropWhile_cons]
  cases h:blank x
  ·
   simp [h]
  ·
   simpa using ih
theorem isB_bl (c:UInt8) (l:List UInt8):isB c (bl l)=isB c l:=by unfold isB;rw [bl_bl]
theorem isL_bl (c:UInt8) (l:List UInt8):isL c (bl l)=isL c l:=by unfold isL;rw [bl_bl]
theorem mark_bl (l:List UInt8):mark (bl l)=mark l:=by unfold mark;rw [bl_bl]
theorem isL_no (c:UInt8) (l:List UInt8) (h:isB c l=false):isL c l=bl l:=by
 unfold isL
 unfold isB at h
 cases hb:bl l with
 | nil=>rfl
 | cons x r=>rw [hb] at h;dsimp only at h ⊢;rw [h];rfl
end Go.Proofs.YtgnfmopcialllaaGreatDoor.Ent
set_option linter.unusedSimpArgs false
set_option linter.unusedVariables false
namespace Go.Proofs.YtgnfmopcialllaaGreatDoor
open Go.RowKit
structure At (s:List UInt8) (r:Nat) (w:World) (l:List UInt8):Prop where
 text:w.cell? ⟨r,0,none⟩=some (.string ⟨s.toArray⟩)
 place:∃k:Nat,k≤s.length∧s.drop k=l∧w.cell? ⟨r,1,none⟩=some (.int .i64 (k:Int))
 free:w.frozen? ⟨r,1,none⟩=false
 lt:r<w.heap.size
theorem drop_cons {s l:List UInt8} {k:Nat} {x:UInt8} (h:s.drop k=x::l):s[k]? = some x∧k<s.length∧s.drop (k+1)=l:=by
 have h1:s[k]? = some x:=by rw [←List.head?_drop,h];rfl
 refine ⟨h1,(List.getElem?_eq_some_iff.1 h1).1,?_⟩
 rw [←List.drop_drop,h];rfl
structure Moved (r:Nat) (w w':World):Prop where
 os:w'.os=w.os
 tape:w'.tape=w.tape
 output:w'.output=w.output
 size:w'.heap.size=w.heap.size
 block:∀k,k≠r→w'.heap[k]? = w.heap[k]?
 cell:∀i,i≠1→w'.cell? ⟨r,i,none⟩=w.cell? ⟨r,i,none⟩
 frozen:∀i,w'.frozen? ⟨r,i,none⟩=w.frozen? ⟨r,i,none⟩
theorem Moved.refl (r:Nat) (w:World):Moved r w w:=⟨rfl,rfl,rfl,rfl,fun _ _=>rfl,fun _ _=>rfl,fun _=>rfl⟩
theorem Moved.trans {r:Nat} {a b c:World} (h:Moved r a b) (k:Moved r b c):Moved r a c :=
 ⟨k.os.trans h.os,k.tape.trans h.tape,k.output.trans h.output,k.size.trans h.size,fun i hi=>(k.block i hi).trans (h.block i hi),fun i hi=>(k.cell i hi).trans (h.cell i hi),fun i=>(k.frozen i).trans (h.frozen i)⟩
theorem Moved.drew {r:Nat} {a w:World} (h:Moved r a w):Moved r a w.drew:=⟨h.os,h.tape,h.output,h.size,h.block,h.cell,h.frozen⟩
theorem Moved.drewN {r:Nat} {a w:World} (h:Moved r a w) (n:Nat):Moved r a (w.drewN n):=by
 induction n with
 | zero=>exact h
 | succ k ih=>exact ih.drew
theorem Moved.set {r:Nat} {a w:World} (h:Moved r a w) (v:Value):Moved r a (w.setCell ⟨r,1,none⟩ v) :=
 h.trans ⟨rfl,rfl,rfl,by simp [World.setCell],fun k hk=>Below.heap_setCell _ _ _ _ hk,fun i hi=>World.cell?_setCell_other _ _ _ _ (fun e=>hi (by cases e;rfl)),fun i=>by simp⟩
theorem At.drewN {s:List UInt8} {r:Nat} {w:World} {l:List UInt8} (h:At s r w l) (n:Nat):At s r (w.drewN n) l:=⟨h.text,h.place,h.free,h.lt⟩
theorem At.set {s:List UInt8} {r:Nat} {w:World} {l:List UInt8} (h:At s r w l) {k:Nat} (hk:k≤s.length) (n:Int) (hn:n=(k:Int)):At s r (w.setCell ⟨r,1,none⟩ (.int .i64 n)) (s.drop k):=by
 obtain ⟨h1,⟨_,_,_,h2⟩,h3,h4⟩:=h
 refine ⟨by rw [World.cell?_setCell_other _ _ _ _ (by simp)];exact h1,⟨k,hk,rfl,?_⟩,by simpa using h3,by simpa using h4⟩
 rw [World.cell?_setCell_same _ _ _ h2,hn]
def placeOf (r:Nat) (w:World):Nat:=match w.cell? ⟨r,1,none⟩ with | some (.int _ n)=>n.toNat | _=>0
theorem index_blank (c:UInt8):decide (0≤Lib.indexByte [32,9,10] c)=Ent.blank c:=by
 have:=byte_all (fun c=>decide (0≤Lib.indexByte [32,9,10] c) == Ent.blank c) (by decide +kernel) c
 simpa using this
theorem quiet_index (l:List UInt8) (c:UInt8) (w:World) (n:Nat) (v:Int) (hv:Lib.indexByte l c=v) :
  Calls Tryz.prog 58 #[.string ⟨l.toArray⟩,.int .u8 (c.toNat:Int)] (w.drewN n) fun e w'=>e = .returned (.int .i64 v)∧∃m,w'=w.drewN m:=by
 refine (Tryz.strings_IndexByte _ _ _).mono (fun e w' ⟨h1,h2⟩=>⟨?_,n,h2⟩)
 rw [h1,toU8,hv]
set_option maxRecDepth 100000 in
set_option maxHeartbeats 400000 in
theorem reader_blanks (s:List UInt8) (r:Nat) (l:List UInt8) (w:World) (hs:s.length≤maxLen) (hA:At s r w l) :
  Calls Tryz.prog 171 #[.pointer (some ⟨r,0,none⟩)] w fun e w'=>e = .returned (.int .u8 (Ent.hd (Ent.bl l)))∧At s r w' (Ent.bl l)∧Moved r w w':=by
 unfold maxLen at hs
 have HA:=η hA;clear hA
 go_enter Tryz.func171, Tryz.ntmps171
 go_wp2_with fail
 go_loopw [] (fun wr=>∃l1,Ent.bl l1=Ent.bl l∧At s r wr l1∧Moved r w wr) (fun wr=>s.length - placeOf r wr)
 case atStart=>exact ⟨l,rfl,HA.out,Moved.refl _ _⟩
 case round =>
  clear HA
  obtain ⟨l1,hl,hA,hM⟩:=hrel
  obtain ⟨k,hk,hd,e1⟩:=hA.place
  have e0:=hA.text
  have f1:=hA.free
  have HA:=η hA;have HM:=η hM;have Hl:=η hl;clear hA hM hl
  cases hl1:l1 with
  | nil =>
   have hkn:k=s.length:=by
    have h:=congrArg List.length hd
    rw [List.length_drop,hl1] at h
    simp at h;omega
   have g1:decide ((k:Int)<(s.length:Int))=false:=by simp;omega
   have g2:((k:Int) == (s.length:Int))=true:=by rw [hkn];simp
   go_wp2_with fail
   go_quiet (fail)
   have HA2:=η (HA.out.drewN nq);have HM2:=η (HM.out.drewN nq)
   clear HA HM
   go_wp2_with fail
   go_quiet (fail)
   go_wp2_with fail
   go_ret
   have h:Ent.bl l=[]:=by rw [←Hl.out,hl1];rfl
   rw [h]
   have h2:=HA2.out.drewN nq
   rw [hl1] at h2
   exact ⟨rfl,h2,HM2.out.drewN _⟩
  | cons x l2 =>
   obtain ⟨hx,hlt,hd2⟩:=drop_cons (hd.trans hl1)
   have g1:(k:Int)<(s.length:Int):=by omega
   have hb:=byte_at s k x hx
   have hkl:(k:Int)+1≤9223372036854775807:=by omega
   obtain ⟨v,hv⟩:∃v,Lib.indexByte [32,9,10] x=v:=⟨_,rfl⟩
   have hib:=index_blank x
   rw [hv] at hib
   have Hv:=η hv;clear hv
   have Hd:=η hd;have Hx:=η hx;have Hl1:=η hl1;have Hd2:=η hd2;clear hd hx hd2 hl1
   cases hbl:Ent.blank x
   ·
    have hi:decide ((0:Int)≤v)=false:=by rw [hbl] at hib;exact hib
    have Hbl:=η hbl
    clear hib hbl
    go_wp2_with fail
    go_quiet (first | (go_at_call 58; exact quiet_index _ _ _ _ _ Hv.out))
    go_wp2_with fail
    have HA2:=η (HA.out.drewN nq);have HM2:=η (HM.out.drewN nq)
    have g2:((k:Int) == (s.length:Int))=false:=by simp;omega
    clear HA HM
    go_quiet (fail)
    replace HA2:=η (HA2.out.drewN nq);replace HM2:=η (HM2.out.drewN nq)
    go_wp2_with fail
    go_quiet (fail)
    go_wp2_with fail
    go_ret
    have h:Ent.bl l=x::l2:=by rw [←Hl.out,Hl1.out];unfold Ent.bl;rw [List.dropWhile_cons,Hbl.out];rfl
    rw [h]
    have h2:=HA2.out.drewN nq
    rw [Hl1.out] at h2
    exact ⟨rfl,h2,HM2.out.drewN _⟩
   ·
    have hi:(0:Int)≤v:=by rw [hbl] at hib;simpa using hib
    have Hbl:=η hbl
    clear hib hbl
    go_wp2_with fail
    go_quiet (first | (go_at_call 58; exact quiet_index _ _ _ _ _ Hv.out))
    go_wp2_with fail
    have h2:=(HA.out.drewN nq).set (k:=k+1) (by omega) ((k:Int)+1) (by omega)
    have h:Ent.bl l2=Ent.bl l:=by rw [←Hl.out,Hl1.out];unfold Ent.bl;rw [List.dropWhile_cons,Hbl.out];rfl
    rw [Hd2.out] at h2
    refine ⟨⟨l2,h,h2,(HM.out.drewN nq).set _⟩,?_⟩
    have p1:placeOf r wr=k:=by unfold placeOf;rw [e1];simp
    have p2:placeOf r ((wr.drewN nq).setCell ⟨r,1,none⟩ (.int .i64 ((k:Int)+1)))=k+1:=by
     unfold placeOf
     rw [World.cell?_setCell_same (wr.drewN nq) _ _ e1]
     simp
    rw [p1,p2];omega
end Go.Proofs.YtgnfmopcialllaaGreatDoor
