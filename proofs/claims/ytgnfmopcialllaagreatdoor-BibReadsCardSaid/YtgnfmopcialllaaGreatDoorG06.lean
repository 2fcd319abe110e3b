/- The plain model of package count (layer 1): counters, their sums, their texts, and the counters that texts are. Plain Lean, no program in sight. Plain theory of counters' texts: each is read back as its counter; unlike counters have unlike texts; what a text is read as has that text. Support for the walks of a chapter: worlds, bytes, rows of the call's own. The walks of package count (layer 1): each function returns what the plain model computes. The walks of package count, second part: numerals, and what is read of them. The walks of package count, third part: a counter's text, and the counter that a text is. Slices of structs as they are handed in, opened as lists: elements of any kind. No program in sight. What the files' texts use of the index's: numbers as text, texts compared, rows laid flat. -/
import Derived.Lib.ItoaNum
import Derived.Lib.Strings
import Derived.Lib.Case
import Derived.Lib.MapU
import Derived.Shelf.Strings.CaseAny
import Derived.Test.YtgnfmopcialllaaGreatDoorG01
import Derived.Test.YtgnfmopcialllaaGreatDoorG05
import Derived.WalkKit
import Derived.Maps.OwnSet
import Derived.Test.YtgnfmopcialllaaGreatDoorTk
import Derived.Test.YtgnfmopcialllaaGreatDoorChecked
import Derived.Test.YtgnfmopcialllaaGreatDoorShelf
import Derived.Lib.AppendIntMem
import Derived.Deep.Slices
import Derived.Deep.Strs
import Derived.OpenShut
import Derived.ProofKit
import Derived.OwnWalk
import Derived.WalkMore
set_option linter.unusedSimpArgs false
set_option linter.unusedVariables false
namespace Go.Proofs.YtgnfmopcialllaaGreatDoor.Cnt
def cut (n:Int):Int:=if n<0 then 0 else if 999999<n then 999999 else n
theorem cut_lo (n:Int):0≤cut n:=by unfold cut;split <;> (try split) <;> omega
theorem cut_hi (n:Int):cut n≤999999:=by unfold cut;split <;> (try split) <;> omega
theorem cut_of {n:Int} (h0:0≤n) (h1:n≤999999):cut n=n:=by unfold cut;rw [if_neg (by omega),if_neg (by omega)]
def numerals:List (Nat × List UInt8) :=
 [(1000,[109]),(900,[99,109]),(500,[100]),(400,[99,100]),(100,[99]),(90,[120,99]),(50,[108]),(40,[120,108]),(10,[120]),(9,[105,120]),(5,[118]),(4,[105,118]),(1,[105])]
def romanGo:List (Nat × List UInt8)→Nat→List UInt8
 | [],_=>[]
 | p::ps,n=>(List.replicate (n / p.1) p.2).flatten++romanGo ps (n % p.1)
def roman (n:Nat):List UInt8:=romanGo numerals n
theorem romanGo_step (p:Nat × List UInt8) (ps:List (Nat × List UInt8)) (n:Nat) (h0:0<p.1) (h:p.1≤n):romanGo (p::ps) n=p.2++romanGo (p::ps) (n - p.1):=by
 have e:n / p.1=(n - p.1) / p.1+1:=by rw [Nat.div_eq_sub_div h0 h]
 have e2:n % p.1=(n - p.1) % p.1:=by rw [Nat.mod_eq_sub_mod h]
 simp [romanGo,e,e2,List.replicate_succ]
theorem romanGo_skip (p:Nat × List UInt8) (ps:List (Nat × List UInt8)) (n:Nat) (h:n<p.1):romanGo (p::ps) n=romanGo ps n:=by
 simp [romanGo,Nat.div_eq_of_lt h,Nat.mod_eq_of_lt h]
def letGo:Nat→Nat→List UInt8
 | 0,_=>[]
 | f+1,n=>if n=0 then [] else letGo f ((n - 1) / 26)++[UInt8.ofNat (97+(n - 1) % 26)]
def lettered (n:Nat):List UInt8:=letGo n n
theorem letGo_any:∀(f g n:Nat),n≤f→n≤g→letGo f n=letGo g n
 | 0,g,n,h,_=>by
  have:n=0:=by omega
  subst this
  cases g <;> simp [letGo]
 | f+1,0,n,_,h=>by
  have:n=0:=by omega
  subst this
  simp [letGo]
 | f+1,g+1,n,h,h'=>by
  simp only [letGo]
  by_cases hn:n=0
  ·
   simp [hn]
  ·
   rw [if_neg hn,if_neg hn,letGo_any f g ((n - 1) / 26) (by omega) (by omega)]
theorem lettered_zero:lettered 0=[]:=rfl
theorem lettered_pos (n:Nat) (h:0<n):lettered n=lettered ((n - 1) / 26)++[UInt8.ofNat (97+(n - 1) % 26)]:=by
 obtain ⟨m,rfl⟩:∃m,n=m+1:=⟨n - 1,by omega⟩
 unfold lettered
 rw [letGo,if_neg (by omega)]
 rw [letGo_any m ((m+1 - 1) / 26) _ (by omega) (by omega)]
def text (n style:Int):List UInt8 :=
 if style=2∧1≤cut n∧cut n≤3999 then Lib.toUpperA (roman (cut n).toNat)
 else if style=1∧1≤cut n∧cut n≤3999 then roman (cut n).toNat
 else if style=3∧1≤cut n then lettered (cut n).toNat
 else Lib.itoa (cut n)
def readGo (lo base low:Nat):List UInt8→Nat→Int
 | [],n=>n
 | c::l,n=>if c.toNat<lo∨lo+base≤c.toNat∨999999<n then -1 else readGo lo base low l (n*base+(c.toNat - lo)+low)
def digits (s:List UInt8):Int:=readGo 48 10 0 s 0
def ofLetters (s:List UInt8):Int:=readGo 97 26 1 s 0
def ofRomGo:Nat→List (Nat × List UInt8)→Nat→List UInt8→Nat
 | _,[],n,_=>n
 | 0,_,n,_=>n
 | f+1,p::ps,n,s=>if Lib.hasPrefix s p.2=true∧n≤3999 then ofRomGo f (p::ps) (n+p.1) (s.drop p.2.length) else ofRomGo f ps n s
def ofRoman (s:List UInt8):Nat:=ofRomGo (s.length+13) numerals 0 s
def tries (s:List UInt8) (style:Int):List Int :=
 digits s::(if style=1 then [(ofRoman s:Int)] else if style=2 then [(ofRoman (Lib.toLowerD s):Int)] else if style=3 then [ofLetters s] else [])
def value (s:List UInt8) (style:Int):Int × Int :=
 match (tries s style).find? (fun n=>n == cut n&&text n style == s) with
 | some n=>(n,0)
 | none=>(0,5)
end Go.Proofs.YtgnfmopcialllaaGreatDoor.Cnt
set_option linter.unusedSimpArgs false
set_option linter.unusedVariables false
namespace Go.Proofs.YtgnfmopcialllaaGreatDoor.Cnt
def decF:Nat→Nat→List UInt8
 | 0,_=>[]
 | f+1,n=>if n<10 then [UInt8.ofNat (48+n)] else decF f (n / 10)++[UInt8.ofNat (48+n % 10)]
theorem decF_eq:∀(f n:Nat),n<10 ^ f→0<f→Lib.decDigits n=decF f n
 | 0,n,_,h=>absurd h (by omega)
 | f+1,n,h,_=>by
  rw [Lib.decDigits]
  unfold decF
  by_cases hn:n<10
  ·
   simp [hn]
  ·
   rw [dif_neg hn,if_neg hn,decF_eq f (n / 10) (by rw [Nat.pow_succ] at h;omega) (by
    rcases Nat.eq_zero_or_pos f with h0 | h0
    ·
     subst h0;simp at h;omega
    ·
     exact h0)]
theorem decF_length:∀(f n:Nat),(decF f n).length≤f
 | 0,n=>by simp [decF]
 | f+1,n=>by
  have:=decF_length f (n / 10)
  unfold decF
  split
  ·
   simp
  ·
   simp;omega
theorem itoa_dec (n:Nat) (h:n≤999999):Lib.itoa (n:Int)=decF 6 n:=by
 unfold Lib.itoa
 rw [if_neg (by omega),Int.toNat_natCast]
 exact decF_eq 6 n (by omega) (by omega)
theorem toNat_cut (n:Nat) (h:n≤999999):cut (n:Int)=n:=cut_of (by omega) (by omega)
theorem text_dec (n:Nat) (h:n≤999999) (style:Int) (h1:style=2→n=0∨3999<n) (h2:style=1→n=0∨3999<n) (h3:style=3→n=0):text (n:Int) style=decF 6 n:=by
 unfold text
 rw [toNat_cut n h,if_neg (by omega),if_neg (by omega),if_neg (by omega),itoa_dec n h]
theorem text_cut (n style:Int):text n style=text (cut n) style:=by
 have h:cut (cut n)=cut n:=cut_of (cut_lo n) (cut_hi n)
 unfold text
 rw [h]
theorem letGo_length:∀(f n:Nat),(letGo f n).length≤f
 | 0,n=>by simp [letGo]
 | f+1,n=>by
  have:=letGo_length f ((n - 1) / 26)
  simp only [letGo]
  split
  ·
   simp
  ·
   simp;omega
theorem romanGo_length:∀(ps:List (Nat × List UInt8)) (n:Nat),(∀p ∈ ps,p.2.length≤p.1)→(romanGo ps n).length≤n
 | [],n,_=>by simp [romanGo]
 | p::ps,n,h=>by
  have h1:=h p (by simp)
  have h2:=romanGo_length ps (n % p.1) (fun q hq=>h q (by simp [hq]))
  have h3:n / p.1*p.2.length≤n / p.1*p.1:=Nat.mul_le_mul_left _ h1
  have h4:=Nat.div_add_mod n p.1
  rw [Nat.mul_comm] at h4
  simp [romanGo,List.length_flatten]
  omega
theorem text_length (n style:Int):(text n style).length≤999999:=by
 have h0:=cut_lo n
 have h1:=cut_hi n
 have hr:=romanGo_length numerals (cut n).toNat (by decide)
 have hl:=letGo_length (cut n).toNat (cut n).toNat
 unfold text
 split
 ·
  unfold Lib.toUpperA roman;rw [List.length_map];omega
 ·
  split
  ·
   unfold roman;omega
  ·
   split
   ·
    unfold lettered;omega
   ·
    have:=decF_length 6 (cut n).toNat
    rw [show cut n=((cut n).toNat:Int) by omega,itoa_dec _ (by omega)]
    omega
end Go.Proofs.YtgnfmopcialllaaGreatDoor.Cnt
set_option linter.unusedSimpArgs false
set_option linter.unusedVariables false
namespace Go.Proofs.YtgnfmopcialllaaGreatDoor
open Go.RowKit
theorem u8_beq (c d:UInt8):((c.toNat:Int) == (d.toNat:Int))=(c == d):=by
 rw [Bool.eq_iff_iff,beq_iff_eq,beq_iff_eq]
 constructor
 ·
  intro h;exact UInt8.toNat_inj.1 (by omega)
 ·
  intro h;rw [h]
theorem SliceIn.pre {α:Type} {S:Nat→Prop} {size:Nat} {R:α→List Value→Prop} {w:World} {p:Option Addr} {n cap:Nat} {xs:List α} (h:SliceIn S size R w (.slice p n cap) xs) (k:Nat) (hk:k≤xs.length):SliceIn S size R w (.slice p k cap) (xs.take k):=by
 obtain ⟨p1,cap1,hv,h1,h2,h3⟩:=h
 injection hv with hp hn hc
 subst hp;subst hc
 have hlen:(xs.take k).length=k:=by rw [List.length_take];omega
 refine ⟨p,cap,by rw [hlen],by omega,h2,fun i x hi=>?_⟩
 have hik:i<k:=by have:=(List.getElem?_eq_some_iff.1 hi).1;omega
 rw [List.getElem?_take_of_lt hik] at hi
 exact h3 i x hi
theorem cut_textN (n:Nat) (s:List UInt8):∃q:Nat,min (s.length:Int) (n:Int)=(q:Int)∧q≤s.length∧(q:Int)≤(s.length:Int)∧(⟨s.toArray⟩:ByteArray).extract 0 q=⟨(s.take n).toArray⟩:=by
 refine ⟨min s.length n,by omega,by omega,by omega,?_⟩
 rw [extract_any]
 congr 2
 simp only [List.drop_zero,Nat.sub_zero]
 rcases Nat.le_total s.length n with h | h
 ·
  rw [Nat.min_eq_left h,List.take_of_length_le (Nat.le_refl _),List.take_of_length_le h]
 ·
  rw [Nat.min_eq_right h]
def OwnL {α:Type} (B:Nat) (t:TypeId) (n:Nat) (R:α→List Value→Prop) (W:World) (v:Value) (l:List α):Prop:=∃fl,W.ownsRow B t n v l.length fl∧RepRow R l fl
section
variable {α:Type} {B:Nat} {t:TypeId} {n:Nat} {R:α→List Value→Prop} {W W':World} {v v':Value} {l:List α}
theorem OwnL.below (h:OwnL B t n R W v l) (hb:Below W.heap.size W W'):OwnL B t n R W' v l:=by
 obtain ⟨fl,h1,h2⟩:=h
 exact ⟨fl,own_below h1 hb,h2⟩
theorem OwnL.nil (B:Nat) (t:TypeId) (n:Nat) (R:α→List Value→Prop) (W:World):OwnL B t n R W (.slice none 0 0) []:=⟨[],⟨by simp,.inl ⟨rfl,rfl⟩⟩,rfl⟩
theorem OwnL.made (B:Nat) (t:TypeId) (n:Nat) (R:α→List Value→Prop) (W:World) (h:B≤W.heap.size):OwnL B t n R (W.alloc (.cells #[] t)) (.slice (some ⟨W.heap.size,0,none⟩) 0 0) [] :=
 ⟨[],own_built W B t n 0 [] h (by simp) (by unfold maxLen;omega),rfl⟩
theorem OwnL.slice (h:OwnL B t n R W v l) (hsz:∀x vs,R x vs→vs.length=n) (S:Nat→Prop) (hS:∀b,B≤b→S b):SliceIn S n R W v l:=by
 obtain ⟨fl,h1,h2⟩:=h
 exact SliceIn.own h1 h2 hsz rfl (fun b hb=>hS b (h1.lt b hb).1)
theorem OwnL.form (h:OwnL B t n R W v l):∃p cap,v = .slice p l.length cap:=by
 obtain ⟨fl,h1,_⟩:=h
 rcases h1.2 with ⟨h,h0⟩ | ⟨g,cap,cur,h,_⟩
 ·
  exact ⟨none,0,by rw [h,h0]⟩
 ·
  exact ⟨_,_,h⟩
theorem OwnL.more {fl:List Value} {x:α} {vs:List Value} (h2:RepRow R l fl) (hx:R x vs) (hown:W'.ownsRow B t n v' (l.length+1) (fl++vs)):OwnL B t n R W' v' (l++[x]) :=
 ⟨_,by rw [List.length_append];exact hown,RepRow.snoc hx h2⟩
end
theorem SliceIn.below' {α:Type} {S:Nat→Prop} {size:Nat} {R:α→List Value→Prop} {w w':World} {v:Value} {xs:List α} (h:SliceIn S size R w v xs) (hb:Below w.heap.size w w'):SliceIn S size R w' v xs:=h.below hb (fun _ _ _ h=>h)
theorem SliceIn.any {α:Type} {S:Nat→Prop} {size:Nat} {R:α→List Value→Prop} {w:World} {v:Value} {xs:List α} (h:SliceIn S size R w v xs):SliceIn (fun _=>True) size R w v xs :=
 h.kept (fun _ _=>trivial) (Nat.le_refl _) (fun _ _ _=>rfl) (fun _ _ _ h=>h)
theorem SliceIn.bound {α:Type} {S:Nat→Prop} {size:Nat} {R:α→List Value→Prop} {w:World} {v:Value} {xs:List α} (h:SliceIn S size R w v xs):xs.length≤9223372036854775807:=by
 obtain ⟨_,_,_,h1,h2,_⟩:=h
 unfold maxLen at h2;omega
end Go.Proofs.YtgnfmopcialllaaGreatDoor
set_option linter.unusedSimpArgs false
set_option linter.unusedVariables false
namespace Go.Proofs.YtgnfmopcialllaaGreatDoor
open Go.RowKit
set_option maxHeartbeats 400000 in
theorem count_cut (n:Int) (w:World) :
  Calls Tryz.prog 81 #[.int .i64 n] w fun e w'=>e = .returned (.int .i64 (Cnt.cut n))∧w=w':=by
 go_enter Tryz.func81, Tryz.ntmps81
 go_wp2
 go_ret
 exact ⟨ret_int (by unfold Cnt.cut;split <;> (try split) <;> omega),rfl⟩
theorem letGo_length:∀(f n:Nat),(Cnt.letGo f n).length≤f
 | 0,n=>by simp [Cnt.letGo]
 | f+1,n=>by
  have:=letGo_length f ((n - 1) / 26)
  simp only [Cnt.letGo]
  split
  ·
   simp
  ·
   simp;omega
set_option maxHeartbeats 400000 in
theorem count_lettered (n:Nat) (w:World) (hn:n≤999999) :
  Calls Tryz.prog 84 #[.int .i64 (n:Int)] w fun e w'=>e = .returned (.string ⟨(Cnt.lettered n).toArray⟩)∧w=w':=by
 have hle:(Cnt.lettered n).length≤999999:=Nat.le_trans (letGo_length n n) hn
 go_enter Tryz.func84, Tryz.ntmps84
 go_wp2
 go_loop [0,3] (fun x s=>∃(m:Nat) (acc:List UInt8),m≤999999∧x = .int .i64 (m:Int)∧s = .string ⟨acc.toArray⟩∧Cnt.lettered m++acc=Cnt.lettered n) (fun x _=>(intOf x).toNat)
 case atStart=>exact ⟨n,[],hn,rfl,rfl,by simp⟩
 case round =>
  obtain ⟨m,acc,hm,rfl,rfl,he⟩:=hrel
  have hal:acc.length≤999999:=by
   have:=congrArg List.length he
   simp at this;omega
  have He:=η he;clear he hle
  by_cases h0:0<m
  ·
   have hE:Utf8.encode (97+((m:Int) - 1) % 26)=⟨[UInt8.ofNat (97+(m - 1) % 26)].toArray⟩:=by
    rw [encode_ascii _ (by omega) (by omega)]
    rw [show (97+((m:Int) - 1) % 26).toNat=97+(m - 1) % 26 by omega]
   go_wp2
   go_round
   case rel=>exact ⟨(m - 1) / 26,_,by omega,by first | go_num | (congr 1;omega),congrArg Value.string (append_data _ _),by rw [←He.out,Cnt.lettered_pos m h0];simp⟩
   case measure=>simp [intOf];omega
  ·
   go_wp2
   go_ret
   exact ⟨ret_str (by have:=He.out;rw [show m=0 by omega] at this;simpa [Cnt.lettered_zero] using this),rfl⟩
set_option maxHeartbeats 400000 in
theorem count_digits (s:ByteArray) (w:World) (hs:s.size≤maxLen) :
  Calls Tryz.prog 209 #[.string s] w fun e w'=>e = .returned (.int .i64 (Cnt.digits s.data.toList))∧w=w':=by
 unfold maxLen at hs
 go_enter Tryz.func209, Tryz.ntmps209
 go_wp2
 go_loop [3,7] (fun n i=>∃k m:Nat,k≤s.size∧i = .int .i64 k∧n = .int .i64 m∧m≤10000009∧Cnt.readGo 48 10 0 (s.data.toList.drop k) m=Cnt.digits s.data.toList) (fun _ i=>s.size - (intOf i).toNat)
 case atStart=>exact ⟨0,0,Nat.zero_le _,rfl,rfl,by omega,by simp [Cnt.digits]⟩
 case round =>
  obtain ⟨k,m,hk,rfl,rfl,hm,he⟩:=hrel
  by_cases hlt:k<s.size
  ·
   rw [drop_get s k hlt,Cnt.readGo] at he
   have He:=η he;clear he
   by_cases hbad:s[k].toNat<48∨57<s[k].toNat∨999999<m
   ·
    have hE:=He.out
    rw [if_pos (by omega)] at hE
    have HE:=η hE;clear hE
    go_wp2
    all_goals (go_ret;exact ⟨ret_int HE.out,rfl⟩)
   ·
    have hE:=He.out
    rw [if_neg (by omega)] at hE
    have HE:=η hE;clear hE
    have b0:(48:Int)≤(s[k].toNat:Int):=by omega
    have b1:(s[k].toNat:Int)≤57:=by omega
    have b2:(m:Int)≤999999:=by omega
    clear hbad
    go_wp2
    go_round
    case rel=>exact ⟨k+1,_,by omega,by go_num,by first | go_num | (congr 1;omega),by omega,HE.out⟩
    case measure=>simp [intOf];omega
  ·
   go_wp2
   go_ret
   exact ⟨ret_int (by rw [drop_end s k (by omega)] at he;simpa [Cnt.readGo] using he),rfl⟩
set_option maxHeartbeats 400000 in
theorem count_letters (s:ByteArray) (w:World) (hs:s.size≤maxLen) :
  Calls Tryz.prog 212 #[.string s] w fun e w'=>e = .returned (.int .i64 (Cnt.ofLetters s.data.toList))∧w=w':=by
 unfold maxLen at hs
 go_enter Tryz.func212, Tryz.ntmps212
 go_wp2
 go_loop [3,7] (fun n i=>∃k m:Nat,k≤s.size∧i = .int .i64 k∧n = .int .i64 m∧m≤26000025∧Cnt.readGo 97 26 1 (s.data.toList.drop k) m=Cnt.ofLetters s.data.toList) (fun _ i=>s.size - (intOf i).toNat)
 case atStart=>exact ⟨0,0,Nat.zero_le _,rfl,rfl,by omega,by simp [Cnt.ofLetters]⟩
 case round =>
  obtain ⟨k,m,hk,rfl,rfl,hm,he⟩:=hrel
  by_cases hlt:k<s.size
  ·
   rw [drop_get s k hlt,Cnt.readGo] at he
   have He:=η he;clear he
   by_cases hbad:s[k].toNat<97∨122<s[k].toNat∨999999<m
   ·
    have hE:=He.out
    rw [if_pos (by omega)] at hE
    have HE:=η hE;clear hE
    go_wp2
    all_goals (go_ret;exact ⟨ret_int HE.out,rfl⟩)
   ·
    have hE:=He.out
    rw [if_neg (by omega)] at hE
    have HE:=η hE;clear hE
    have b0:(97:Int)≤(s[k].toNat:Int):=by omega
    have b1:(s[k].toNat:Int)≤122:=by omega
    have b2:(m:Int)≤999999:=by omega
    clear hbad
    go_wp2
    go_round
    case rel=>exact ⟨k+1,_,by omega,by go_num,by first | go_num | (congr 1;omega),by omega,HE.out⟩
    case measure=>simp [intOf];omega
  ·
   go_wp2
   go_ret
   exact ⟨ret_int (by rw [drop_end s k (by omega)] at he;simpa [Cnt.readGo] using he),rfl⟩
theorem numerals_pos:∀p ∈ Cnt.numerals,0<p.1∧p.1≤1000∧0<p.2.length∧p.2.length≤2:=by decide
def numCells:Array Value:=(Cnt.numerals.flatMap fun p=>[Value.int .i64 (p.1:Int),Value.string ⟨p.2.toArray⟩]).toArray
def NumAt (w:World):Prop:=∃t fr,w.heap[(1 : Nat)]? = some (.cells numCells t fr)
theorem NumAt.below {w w':World} (h:NumAt w) (hb:Below w.heap.size w w'):NumAt w':=by
 obtain ⟨t,fr,h⟩:=h
 exact ⟨t,fr,(hb.block _ (Array.getElem?_eq_some_iff.1 h).1).trans h⟩
theorem num_index (k:Nat) (p:Nat × List UInt8) (h:Cnt.numerals[k]? = some p) :
  ∀w,(Instr.index 238 (.agg numCells) (.int .i64 (k:Int))).run Tryz.prog w = .ok (.agg #[.int .i64 (p.1:Int),.string ⟨p.2.toArray⟩]) w:=by
 have hk:k<13:=by
  rcases Nat.lt_or_ge k 13 with h' | h'
  ·
   exact h'
  ·
   rw [List.getElem?_eq_none (by simpa [Cnt.numerals] using h')] at h;cases h
 match k,hk with
 | 0,_ | 1,_ | 2,_ | 3,_ | 4,_ | 5,_ | 6,_ | 7,_ | 8,_ | 9,_ | 10,_ | 11,_ | 12,_ =>
  simp [Cnt.numerals] at h
  subst h
  intro w
  kernel_rfl
end Go.Proofs.YtgnfmopcialllaaGreatDoor
set_option linter.unusedSimpArgs false
set_option linter.unusedVariables false
namespace Go.Proofs.YtgnfmopcialllaaGreatDoor
open Go.RowKit
set_option maxHeartbeats 400000 in
theorem count_ofRoman (l:List UInt8) (w:World) (hs:l.length≤maxLen) (hN:NumAt w) :
  Calls Tryz.prog 210 #[.string ⟨l.toArray⟩] w fun e w'=>e = .returned (.int .i64 (Cnt.ofRoman l))∧Below w.heap.size w w':=by
 unfold maxLen at hs
 obtain ⟨t,fr,hN⟩:=hN
 have hN':=η hN;clear hN
 go_enter Tryz.func210, Tryz.ntmps210
 go_wp2_with (refine wpList_load_row rfl 238 _ rfl 1 rfl t numCells fr _ hN'.out Tryz.underlying238 rfl (by kernel_rfl) ?_)
 go_loopw [0,3,7] (fun x n i wr=>∃(k m f:Nat) (l':List UInt8),k≤13∧m≤4999∧l'.length≤9223372036854775807∧x = .string ⟨l'.toArray⟩∧n = .int .i64 m∧i = .int .i64 k∧l'.length+(13 - k)≤f∧Cnt.ofRomGo f (Cnt.numerals.drop k) m l'=Cnt.ofRoman l∧Below w.heap.size w wr) (fun _ _ i _=>13 - (intOf i).toNat)
 case atStart=>exact ⟨0,0,l.length+13,l,by omega,by omega,by omega,rfl,rfl,rfl,by omega,rfl,Below.refl _ _⟩
 case round =>
  obtain ⟨k,m,f,l',hk,hm,hl,rfl,rfl,rfl,hf,he,hb⟩:=hrel
  have He:=η he;clear he
  by_cases hlt:k<13
  ·
   obtain ⟨p,hp⟩:∃p,Cnt.numerals[k]? = some p:=⟨_,List.getElem?_eq_getElem (by simpa [Cnt.numerals] using hlt)⟩
   have hpp:=numerals_pos p (List.mem_of_getElem? hp)
   have hidx:=num_index k p hp
   have hdr:Cnt.numerals.drop k=p::Cnt.numerals.drop (k+1):=by
    obtain ⟨hk',e⟩:=List.getElem?_eq_some_iff.1 hp
    rw [List.drop_eq_getElem_cons hk',e]
   have Hp:=η hp;clear hp
   have Hdr:=η hdr;clear hdr
   have hl':=hl;have hm':=hm;have hf':=hf
   have hk8:decide ((k:Int)<13)=true:=by simp;omega
   go_wp2_with fail
   go_loop [0,3] (fun x n=>∃(m f:Nat) (l':List UInt8),m≤4999∧l'.length≤9223372036854775807∧x = .string ⟨l'.toArray⟩∧n = .int .i64 m∧l'.length+(13 - k)≤f∧Cnt.ofRomGo f (p::Cnt.numerals.drop (k+1)) m l'=Cnt.ofRoman l) (fun x _=>strLen x)
   case atStart=>exact ⟨m,f,l',hm',hl',rfl,rfl,hf',by rw [←Hdr.out];exact He.out⟩
   case round =>
    obtain ⟨m,f,l',hm,hl,rfl,rfl,hf,he⟩:=hrel
    obtain ⟨f,rfl⟩:∃g,f=g+1:=⟨f - 1,by omega⟩
    rw [Cnt.ofRomGo] at he
    by_cases hc:Lib.hasPrefix l' p.2=true∧m≤3999
    ·
     rw [if_pos hc] at he
     have He:=η he;clear he
     obtain ⟨hc1,hc2⟩:=hc
     have hple:p.2.length≤l'.length:=List.IsPrefix.length_le (List.isPrefixOf_iff_prefix.1 hc1)
     go_wp2_with (go_at_call 232; refine (Tryz.strings_HasPrefix _ _ _).mono ?_;rintro e w' ⟨rfl,rfl⟩)
     go_round
     case rel=>exact ⟨m+p.1,f,l'.drop p.2.length,by omega,by simp;omega,congrArg Value.string (extract_end _ _),by go_num,by simp;omega,He.out⟩
     case measure=>rw [extract_end];simp [strLen,ByteArray.size];omega
    ·
     rw [if_neg hc] at he
     have He:=η he;clear he
     cases hc1:Lib.hasPrefix l' p.2
     ·
      go_wp2_with (go_at_call 232; refine (Tryz.strings_HasPrefix _ _ _).mono ?_;rintro e w' ⟨rfl,rfl⟩)
      go_roundw
      case rel=>exact ⟨k+1,m,f,l',by omega,hm,hl,rfl,rfl,by go_num,by omega,He.out,hb.alloc hb.size _⟩
      case measure=>simp [intOf];omega
     ·
      have hc2:(3999:Int)<(m:Int):=by
       rcases Nat.lt_or_ge 3999 m with h | h
       ·
        omega
       ·
        exact absurd ⟨hc1,h⟩ hc
      clear hc
      go_wp2_with (go_at_call 232; refine (Tryz.strings_HasPrefix _ _ _).mono ?_;rintro e w' ⟨rfl,rfl⟩)
      go_roundw
      case rel=>exact ⟨k+1,m,f,l',by omega,hm,hl,rfl,rfl,by go_num,by omega,He.out,hb.alloc hb.size _⟩
      case measure=>simp [intOf];omega
  ·
   go_wp2_with fail
   go_ret
   refine ⟨ret_int ?_,hb⟩
   have h:=He.out
   rw [show k=13 by omega] at h
   rw [←h]
   cases f <;> simp [Cnt.numerals,Cnt.ofRomGo]
theorem romanGo_length:∀(ps:List (Nat × List UInt8)) (n:Nat),(∀p ∈ ps,p.2.length≤p.1)→(Cnt.romanGo ps n).length≤n
 | [],n,_=>by simp [Cnt.romanGo]
 | p::ps,n,h=>by
  have h1:=h p (by simp)
  have h2:=romanGo_length ps (n % p.1) (fun q hq=>h q (by simp [hq]))
  have h3:n / p.1*p.2.length≤n / p.1*p.1:=Nat.mul_le_mul_left _ h1
  have h4:=Nat.div_add_mod n p.1
  rw [Nat.mul_comm] at h4
  simp [Cnt.romanGo,List.length_flatten]
  omega
theorem roman_length (n:Nat):(Cnt.roman n).length≤n:=romanGo_length _ _ (by decide)
theorem byteCells_append (a b:List UInt8):Lib.byteCells a++Lib.byteCells b=Lib.byteCells (a++b):=by simp [Lib.byteCells]
set_option maxHeartbeats 400000 in
theorem count_roman (n:Nat) (w:World) (hn:n≤999999) (hN:NumAt w) :
  Calls Tryz.prog 83 #[.int .i64 (n:Int)] w fun e w'=>e = .returned (.string ⟨(Cnt.roman n).toArray⟩)∧Below w.heap.size w w':=by
 have hle:=roman_length n
 have hN0:=hN
 obtain ⟨t,fr,hN⟩:=hN0
 have hg : 1 < w.heap.size:=(Array.getElem?_eq_some_iff.1 hN).1
 have hF:=Lib.IsBuilderF.of (Lib.fresh_isBuilder 229 5 w)
 have HF:=η hF;clear hF
 have hN':(w.alloc (.cells #[.pointer none,.slice none 0 0] 229)).heap[(1 : Nat)]? = some (.cells numCells t fr):=(Below.heap_alloc w _ _ hg).trans hN
 have HN:=η hN';clear hN' hN
 go_enter Tryz.func83, Tryz.ntmps83
 go_wp2_with (refine wpList_load_row rfl 238 _ rfl 1 rfl t numCells fr _ HN.out Tryz.underlying238 rfl (by kernel_rfl) ?_)
 go_loopw [0,7] (fun x i wr=>∃(k m:Nat) (acc:List UInt8),k≤13∧m≤999999∧x = .int .i64 m∧i = .int .i64 k∧acc++Cnt.romanGo (Cnt.numerals.drop k) m=Cnt.roman n∧Lib.IsBuilderF 229 5 w.heap.size w.heap.size (Lib.byteCells acc) wr∧Below w.heap.size w wr∧w.heap.size<wr.heap.size) (fun _ i _=>13 - (intOf i).toNat)
 case atStart=>exact ⟨0,n,[],by omega,by omega,rfl,rfl,rfl,HF.out,(Below.refl _ _).alloc (Nat.le_refl _) _,by simp⟩
 case round =>
  obtain ⟨k,m,acc,hk,hm,rfl,rfl,he,hI,hb,hz⟩:=hrel
  have He:=η he;clear he
  by_cases hlt:k<13
  ·
   obtain ⟨p,hp⟩:∃p,Cnt.numerals[k]? = some p:=⟨_,List.getElem?_eq_getElem (by simpa [Cnt.numerals] using hlt)⟩
   have hpp:=numerals_pos p (List.mem_of_getElem? hp)
   have hidx:=num_index k p hp
   have hdr:Cnt.numerals.drop k=p::Cnt.numerals.drop (k+1):=by
    obtain ⟨hk',e⟩:=List.getElem?_eq_some_iff.1 hp
    rw [List.drop_eq_getElem_cons hk',e]
   have Hp:=η hp;clear hp
   have Hdr:=η hdr;clear hdr
   have hk8:decide ((k:Int)<13)=true:=by simp;omega
   have hIa:Lib.IsBuilderF 229 5 w.heap.size w.heap.size (Lib.byteCells acc) (wr.alloc (.cells #[.int .i64 (p.1:Int),.string ⟨p.2.toArray⟩] 237)):=hI.alloc _
   have hba:Below w.heap.size w (wr.alloc (.cells #[.int .i64 (p.1:Int),.string ⟨p.2.toArray⟩] 237)):=hb.alloc hb.size _
   have hpa:(wr.alloc (.cells #[.int .i64 (p.1:Int),.string ⟨p.2.toArray⟩] 237)).heap[wr.heap.size]? = some (.cells #[.int .i64 (p.1:Int),.string ⟨p.2.toArray⟩] 237):=heap_alloc_new wr _
   have HI:=η hIa;clear hIa hI
   have HP:=η hpa;clear hpa
   have HB:=η hba;clear hba
   have hbs:=hb.size
   clear hb
   have hm':=hm
   go_wp2_with fail
   go_loopw [0] (fun x wi=>∃(m:Nat) (acc:List UInt8),m≤999999∧x = .int .i64 m∧acc++Cnt.romanGo (p::Cnt.numerals.drop (k+1)) m=Cnt.roman n∧Lib.IsBuilderF 229 5 w.heap.size w.heap.size (Lib.byteCells acc) wi∧Below w.heap.size w wi∧wr.heap.size<wi.heap.size∧wi.heap[wr.heap.size]? = some (.cells #[.int .i64 (p.1:Int),.string ⟨p.2.toArray⟩] 237)) (fun x _=>(intOf x).toNat)
   case atStart=>exact ⟨m,acc,hm',rfl,by rw [←Hdr.out];exact He.out,HI.out,HB.out,by simp,HP.out⟩
   case round =>
    rename_i wi
    obtain ⟨m,acc,hm,rfl,he,hI,hb,hz2,hp2⟩:=hrel
    have c0:=cell_of_row _ _ 0 _ _ _ hp2
    have c1:=cell_of_row _ _ 1 _ _ _ hp2
    have hal:acc.length≤999999:=by
     have:=congrArg List.length he
     simp at this;omega
    have HP2:=η hp2;clear hp2
    by_cases hc:p.1≤m
    ·
     rw [Cnt.romanGo_step p _ m hpp.1 hc] at he
     have He2:=η he;clear he
     have hps:p.2.length≤2:=hpp.2.2.2
     go_wp2_with fail
     refine (Tryz.Builder_WriteString_k _ _ _ _ _ hI (by rw [Lib.byteCells_length];simp [ByteArray.size];omega) hb.size).mono ?_
     rintro e w2 ⟨rfl,h2,b2,k2⟩
     have hp3:=k2 _ _ HP2.out (fun e=>by injection e with e;omega) (fun c fz e=>by injection e with _ e;exact absurd e (by decide))
     have d0:=cell_of_row _ _ 0 _ _ _ hp3
     have d1:=cell_of_row _ _ 1 _ _ _ hp3
     have HP3:=η hp3;clear hp3
     have hb3:=hb.trans b2
     have hz3:=b2
     go_wp2_with fail
     go_roundw
     case rel=>exact ⟨m - p.1,acc++p.2,by omega,by congr 1;omega,by rw [List.append_assoc];exact He2.out,.inr (by rw [←byteCells_append];exact h2),hb3,by have:=b2.size;omega,HP3.out⟩
     case measure=>simp [intOf];omega
    ·
     rw [Cnt.romanGo_skip p _ m (by omega)] at he
     have He2:=η he;clear he
     go_wp2_with fail
     go_roundw
     case rel=>exact ⟨k+1,m,acc,by omega,hm,rfl,by go_num,He2.out,hI,hb,by omega⟩
     case measure=>simp [intOf];omega
  ·
   go_wp2_with (go_at_call 143; refine (Tryz.Builder_String_any_k _ _ _ _ hI hb.size).mono ?_;rintro e w' ⟨rfl,h1,b1,k1⟩)
   go_ret
   have hE:=He.out
   rw [show k=13 by omega] at hE
   refine ⟨ret_str (by simpa [Cnt.numerals,Cnt.romanGo] using hE),hb.trans b1⟩
end Go.Proofs.YtgnfmopcialllaaGreatDoor
set_option linter.unusedSimpArgs false
set_option linter.unusedVariables false
namespace Go.Proofs.YtgnfmopcialllaaGreatDoor
open Go.RowKit
structure Laid01 (w:World):Prop where
 num:NumAt w
 pow:Lib.TabIs Tryz.prog w "internal/strconv.uint64pow10" .u64 Lib.pow10Tab
 cas:Lib.CaseVar 3 Lib.caseA w
 utf:Lib.Utf8Tabs 5 6 w
theorem Laid01.below {w w':World} (h:Laid01 w) (hb:Below w.heap.size w w'):Laid01 w':=by
 refine ⟨h.num.below hb,?_,Lib.CaseVar_below h.cas hb,?_⟩
 ·
  have hp:=h.pow
  unfold Lib.TabIs at hp ⊢
  refine var?_below hb (show Tryz.prog.globalNamed "internal/strconv.uint64pow10" = some 4 by kernel_rfl) ?_ hp
  unfold World.var? at hp
  simp only [show Tryz.prog.globalNamed "internal/strconv.uint64pow10" = some 4 by kernel_rfl,Option.bind_some] at hp
  rcases Nat.lt_or_ge 4 w.heap.size with h1 | h1
  ·
   exact h1
  ·
   rw [Array.getElem?_eq_none h1] at hp;simp at hp
 ·
  obtain ⟨h1,h2⟩:=h.utf
  refine ⟨fun c hc=>?_,fun i hi=>⟨?_,?_⟩⟩
  ·
   have:=h1 c hc;exact (hb.cell (World.block_lt_of_cell? w _ this)).trans this
  ·
   have:=(h2 i hi).1;exact (hb.cell (World.block_lt_of_cell? w _ this)).trans this
  ·
   have:=(h2 i hi).2;exact (hb.cell (World.block_lt_of_cell? w _ this)).trans this
theorem std_itoa (n:Int) (w:World) (hL:Laid01 w) (h0:-9223372036854775808≤n) (h1:n≤9223372036854775807) :
  Calls Tryz.prog 41 #[.int .i64 n] w fun e w'=>e = .returned (.string ⟨(Lib.itoa n).toArray⟩)∧Below w.heap.size w w' :=
 (Tryz.strconv_Itoa n h0 h1 w hL.pow).mono fun e w' ⟨he,k,os,hw⟩=>⟨he,by rw [hw];exact Lib.below_grow _ _ (Nat.le_refl _) _ _⟩
theorem roman_ascii (n:Nat):∀b ∈ Cnt.roman n,b.toNat<128:=by
 have h:∀(ps:List (Nat × List UInt8)) (n:Nat),(∀p ∈ ps,∀b ∈ p.2,b.toNat<128) → ∀b ∈ Cnt.romanGo ps n,b.toNat<128:=by
  intro ps
  induction ps with
  | nil=>intro n _ b hb;simp [Cnt.romanGo] at hb
  | cons p ps ih =>
   intro n hp b hb
   simp only [Cnt.romanGo,List.mem_append,List.mem_flatten,List.mem_replicate] at hb
   rcases hb with ⟨l,⟨_,rfl⟩,hb⟩ | hb
   ·
    exact hp p (by simp) b hb
   ·
    exact ih _ (fun q hq=>hp q (by simp [hq])) b hb
 exact h _ n (by decide)
set_option maxHeartbeats 400000 in
theorem count_text (n style:Int) (w:World) (hL:Laid01 w) :
  Calls Tryz.prog 40 #[.int .i64 n,.int .i64 style] w fun e w'=>e = .returned (.string ⟨(Cnt.text n style).toArray⟩)∧Below w.heap.size w w':=by
 have c0:=Cnt.cut_lo n
 have c1:=Cnt.cut_hi n
 obtain ⟨c,hc⟩:∃c:Nat,Cnt.cut n=(c:Int):=⟨(Cnt.cut n).toNat,by omega⟩
 have hc1:c≤999999:=by omega
 have Hc:=η hc;clear hc c0 c1
 have HL:=η hL;clear hL
 go_enter Tryz.func40, Tryz.ntmps40
 go_wp2_with (first
  | (go_at_call 81; refine (count_cut _ _).mono ?_;rintro e w' ⟨rfl,rfl⟩;rw [Hc.out])
  | (go_at_call 83; refine (count_roman c _ hc1 HL.out.num).mono ?_;rintro e w1 ⟨rfl,b1⟩)
  | (go_at_call 82; refine (Tryz.strings_ToUpper_ascii _ _ (by have:=roman_length c;simp [ByteArray.size];omega) (fun j b hj=>roman_ascii c b (List.mem_of_getElem? hj))).mono ?_;rintro e w2 ⟨rfl,b2⟩)
  | (go_at_call 84; refine (count_lettered c _ hc1).mono ?_;rintro e w' ⟨rfl,rfl⟩)
  | (go_at_call 41; refine (std_itoa _ _ HL.out (by omega) (by omega)).mono ?_;rintro e w3 ⟨rfl,b3⟩))
 all_goals
  go_ret
  refine ⟨ret_str ?_,?_⟩
  ·
   unfold Cnt.text
   rw [Hc.out]
   repeat (first | rw [if_pos (by omega)] | rw [if_neg (by omega)])
   try simp
  ·
   first | exact bseq b1 b2 | exact b1 | exact b3 | exact Below.refl _ _
theorem encodeRune_length (r:Int):(Lib.encodeRune r).length≤4:=by
 unfold Lib.encodeRune Lib.encodeRuneZ
 rw [List.length_map]
 (repeat' split) <;> simp
theorem mapGoD_length (f:Int→Int):∀(n:Nat) (l:List UInt8),(Lib.mapGoD f n l).length≤4*n
 | 0,l=>by simp [Lib.mapGoD]
 | n+1,l=>by
  have h1:=mapGoD_length f n (l.drop (Lib.decodeL l).2)
  have h2:=encodeRune_length (f (Lib.decodeL l).1)
  simp only [Lib.mapGoD]
  split
  ·
   simp
  ·
   rw [List.length_append]
   split
   ·
    omega
   ·
    simp;omega
theorem toLowerD_length (l:List UInt8) (h:l.length≤1000000):(Lib.toLowerD l).length≤maxLen:=by
 have:=mapGoD_length Lib.toLowerU l.length l
 unfold Lib.toLowerD Lib.mapD maxLen
 omega
theorem int_info:(Tryz.prog.info? 3).map (fun i=>(i.zero,i.size,i.bytes))=some (some (.int .i64 0),1,8):=by kernel_rfl
def OwnInts (B:Nat) (w:World) (v:Value) (ns:List Int):Prop:=w.ownsRow B 3 1 v ns.length (ns.map (Value.int .i64))
set_option maxRecDepth 100000 in
set_option maxHeartbeats 400000 in
theorem count_value (l:List UInt8) (style:Int) (w:World) (hL:Laid01 w) (hl:l.length≤1000000) :
  Calls Tryz.prog 170 #[.string ⟨l.toArray⟩,.int .i64 style] w fun e w'=>e = .returned (.tuple #[.int .i64 (Cnt.value l style).1,.int .i64 (Cnt.value l style).2])∧Below w.heap.size w w':=by
 go_enter Tryz.func170, Tryz.ntmps170
 go_upto_block 0 with (first
  | (go_at_call 209; refine (count_digits _ _ (by unfold maxLen;simp [ByteArray.size];omega)).mono ?_;rintro e w' ⟨rfl,rfl⟩))
 have hown0:OwnInts w.heap.size (w.alloc (.cells #[.int .i64 (Cnt.digits l)] 3)) (.slice (some ⟨w.heap.size,0,none⟩) 1 1) [Cnt.digits l] :=
  own_built w _ _ 1 1 [.int .i64 (Cnt.digits l)] (Nat.le_refl _) rfl (by unfold maxLen;omega)
 have hb0:Below w.heap.size w (w.alloc (.cells #[.int .i64 (Cnt.digits l)] 3)):=(Below.refl _ _).alloc (Nat.le_refl _) _
 have hL0:=hL.below hb0
 obtain ⟨i0,hi,hz0,hz1,hz2⟩:=info_parts int_info
 have htr:Cnt.tries l style=Cnt.digits l::(if style=1 then [(Cnt.ofRoman l:Int)] else if style=2 then [(Cnt.ofRoman (Lib.toLowerD l):Int)] else if style=3 then [Cnt.ofLetters l] else []):=rfl
 go_cut [6] (fun v wx=>OwnInts w.heap.size wx v (Cnt.tries l style)∧Below w.heap.size w wx)
 case first =>
  have Hown0:=η hown0;clear hown0
  have HB0:=η hb0;clear hb0
  have HL0:=η hL0;clear hL0
  by_cases h1:style=1
  ·
   rw [if_pos h1] at htr
   have Htr:=η htr;clear htr
   have hs:(style == 1)=true:=by simpa using h1
   clear h1
   go_wp2_with (first
    | (go_at_call 210; refine (count_ofRoman l _ (by unfold maxLen;omega) HL0.out.num).mono ?_;rintro e w1 ⟨rfl,b1⟩)
    | (at_builtin;go_loud (refine wpList_append1 rfl (.tmp 15) (.tmp 18) 223 rfl w.heap.size 3 i0 (.int .i64 0) 1 8 Tryz.underlying223 hi hz0 hz1 hz2 rfl (by decide) _ _ _ (own_below Hown0.out b1) rfl [.int .i64 (Cnt.ofRoman l)] rfl (by simp) rfl (by simp [Value.oneCell']) (by simp [maxLen]) (by simp) (bseq HB0.out b1).size ?_);intro v2 w2 own2 g2 at2))
   go_meet
   case rel=>exact ⟨by rw [Htr.out];exact own2,below_grown (bseq HB0.out b1) g2 (own_below Hown0.out b1) (bseq HB0.out b1).size (Nat.le_refl _)⟩
  ·
   rw [if_neg h1] at htr
   have hs1:(style == 1)=false:=by simpa using h1
   clear h1
   by_cases h2:style=2
   ·
    rw [if_pos h2] at htr
    have Htr:=η htr;clear htr
    have hs2:(style == 2)=true:=by simpa using h2
    clear h2
    have hlow:(Lib.toLowerD l).length≤maxLen:=toLowerD_length l hl
    go_wp2_with (first
     | (go_at_call 211; refine (Tryz.strings_ToLower_any _ _ (by rw [size_mk];omega) HL0.out.cas HL0.out.utf).mono ?_;rintro e w1 ⟨rfl,b1⟩)
     | (go_at_call 210; refine (count_ofRoman _ _ hlow (HL0.out.below b1).num).mono ?_;rintro e w3 ⟨rfl,b3⟩)
     | (at_builtin;go_loud (refine wpList_append1 rfl (.tmp 22) (.tmp 26) 223 rfl w.heap.size 3 i0 (.int .i64 0) 1 8 Tryz.underlying223 hi hz0 hz1 hz2 rfl (by decide) _ _ _ (own_below Hown0.out (bseq b1 b3)) rfl [.int .i64 (Cnt.ofRoman (Lib.toLowerD l))] rfl (by simp) rfl (by simp [Value.oneCell']) (by simp [maxLen]) (by simp) (bseq (bseq HB0.out b1) b3).size ?_);intro v2 w2 own2 g2 at2))
    go_meet
    case rel=>exact ⟨by rw [Htr.out];exact own2,below_grown (bseq (bseq HB0.out b1) b3) g2 (own_below Hown0.out (bseq b1 b3)) (bseq (bseq HB0.out b1) b3).size (Nat.le_refl _)⟩
   ·
    rw [if_neg h2] at htr
    have hs2:(style == 2)=false:=by simpa using h2
    clear h2
    by_cases h3:style=3
    ·
     rw [if_pos h3] at htr
     have Htr:=η htr;clear htr
     have hs3:(style == 3)=true:=by simpa using h3
     clear h3
     go_wp2_with (first
      | (go_at_call 212; refine (count_letters _ _ (by rw [size_mk];unfold maxLen;omega)).mono ?_;rintro e w' ⟨rfl,rfl⟩)
      | (at_builtin;go_loud (refine wpList_append1 rfl (.tmp 30) (.tmp 33) 223 rfl w.heap.size 3 i0 (.int .i64 0) 1 8 Tryz.underlying223 hi hz0 hz1 hz2 rfl (by decide) _ _ _ Hown0.out rfl [.int .i64 (Cnt.ofLetters l)] rfl (by simp) rfl (by simp [Value.oneCell']) (by simp [maxLen]) (by simp) HB0.out.size ?_);intro v2 w2 own2 g2 at2))
     go_meet
     case rel=>exact ⟨by rw [Htr.out];exact own2,below_grown HB0.out g2 Hown0.out HB0.out.size (Nat.le_refl _)⟩
    ·
     rw [if_neg h3] at htr
     have Htr:=η htr;clear htr
     have hs3:(style == 3)=false:=by simpa using h3
     clear h3
     go_wp2
     go_meet
     case rel=>exact ⟨by rw [Htr.out];exact Hown0.out,HB0.out⟩
 case rest =>
  obtain ⟨hown,hb⟩:=hcut
  have hn2:(Cnt.tries l style).length≤2:=by rw [htr];simp only [List.length_cons];(repeat' split) <;> simp
  have hne:0<(Cnt.tries l style).length:=by rw [htr];simp
  clear htr hown0 hb0 hL0 hi hz0 hz1 hz2
  obtain ⟨g,cap,hv,hgB,hgl⟩:=World.ownsRow.form hown hne
  obtain ⟨ts,hts⟩:∃ts,ts=Cnt.tries l style:=⟨_,rfl⟩
  rw [←hts] at hown hn2 hne hv
  have Hts:=η hts;clear hts
  subst hv
  have Hown:=η hown;clear hown
  have HL:=η (hL.below hb);clear hL
  go_wp2_with fail
  go_loopw [37] (fun i wr=>∃k:Nat,k≤ts.length∧i = .int .i64 k∧(ts.take k).find? (fun n=>n == Cnt.cut n&&Cnt.text n style == l)=none∧Below wc.heap.size wc wr) (fun i _=>ts.length - (intOf i).toNat)
  case atStart=>exact ⟨0,Nat.zero_le _,rfl,rfl,Below.refl _ _⟩
  case round =>
   obtain ⟨k,hk,rfl,hno,hbr⟩:=hrel
   have Hno:=η hno;clear hno
   by_cases hlt:k<ts.length
   ·
    obtain ⟨x,hx⟩:∃x,ts[k]? = some x:=⟨_,List.getElem?_eq_getElem hlt⟩
    have e0:wr.cell? ⟨g,k,none⟩=some (.int .i64 x):=by
     have:=World.ownsRow.cellAt Hown.out k (by omega)
     rw [(hbr.cell (p:=⟨g,k,none⟩) hgl).trans this]
     simp [hx]
    have hfind:ts.find? (fun n=>n == Cnt.cut n&&Cnt.text n style == l)=if (x == Cnt.cut x&&Cnt.text x style == l)=true then some x else (ts.drop (k+1)).find? (fun n=>n == Cnt.cut n&&Cnt.text n style == l):=by
     obtain ⟨hk',e⟩:=List.getElem?_eq_some_iff.1 hx
     conv=>lhs;rw [←List.take_append_drop k ts,List.find?_append,Hno.out,Option.none_or,List.drop_eq_getElem_cons hk',e]
     rw [List.find?_cons]
     cases hp:(x == Cnt.cut x&&Cnt.text x style == l) <;> rfl
    have hstep:(x == Cnt.cut x&&Cnt.text x style == l)=false→(ts.take (k+1)).find? (fun n=>n == Cnt.cut n&&Cnt.text n style == l)=none:=by
     intro hf
     rw [List.take_add_one,hx,List.find?_append,Hno.out]
     simp [hf]
    have Hfind:=η hfind;clear hfind
    have Hstep:=η hstep;clear hstep
    have Hx:=η hx;clear hx
    have HLr:=η (HL.out.below hbr)
    have hlt':(k:Int)<(ts.length:Int):=by omega
    cases hc1:(x == Cnt.cut x)
    ·
     go_wp2_with (go_at_call 81; refine (count_cut _ _).mono ?_;rintro e w' ⟨rfl,rfl⟩)
     go_roundw
     case rel=>exact ⟨k+1,by omega,by go_num,Hstep.out (by rw [hc1];rfl),hbr⟩
     case measure=>simp [intOf];omega
    ·
     cases hc2:(Cnt.text x style == l)
     ·
      go_wp2_with (first
       | (go_at_call 81; refine (count_cut _ _).mono ?_;rintro e w' ⟨rfl,rfl⟩)
       | (go_at_call 40; refine (count_text _ _ _ HLr.out).mono ?_;rintro e w3 ⟨rfl,b3⟩))
      go_roundw
      case rel=>exact ⟨k+1,by omega,by go_num,Hstep.out (by rw [hc1,hc2];rfl),bseq hbr b3⟩
      case measure=>simp [intOf];omega
     ·
      go_wp2_with (first
       | (go_at_call 81; refine (count_cut _ _).mono ?_;rintro e w' ⟨rfl,rfl⟩)
       | (go_at_call 40; refine (count_text _ _ _ HLr.out).mono ?_;rintro e w3 ⟨rfl,b3⟩))
      go_ret2
      refine ⟨?_,bseq hb (bseq hbr b3)⟩
      unfold Cnt.value
      rw [←Hts.out,Hfind.out,hc1,hc2]
      simp
   ·
    go_wp2_with fail
    go_ret2
    refine ⟨?_,bseq hb hbr⟩
    have h:=Hno.out
    rw [List.take_of_length_le (by omega)] at h
    unfold Cnt.value
    rw [←Hts.out,h]
    simp
end Go.Proofs.YtgnfmopcialllaaGreatDoor
set_option linter.unusedSimpArgs false
set_option linter.unusedVariables false
namespace Go.Proofs.YtgnfmopcialllaaGreatDoor
open Go.ChangeShapes Go.WideShapes Go.RowKit
def cellAddr (b o:Nat) (sp:Option Nat):Nat→Addr
 | 0=>⟨b,o,sp⟩
 | i+1=>⟨b,o+(i+1),none⟩
def OSl {α:Type} (n:Nat) (R:α→List Value→Prop) (w:World) (p:Option Addr) (l:List α):Prop :=
 ∀j x,l[j]? = some x → ∃(a:Addr) (b o:Nat) (sp:Option Nat) (vs:List Value),p=some a∧a.add (j*n)=⟨b,o,sp⟩∧b<w.heap.size∧R x vs∧∀i u,vs[i]? = some u→w.cell? (cellAddr b o sp i)=some u
theorem OSl.nil {α:Type} (n:Nat) (R:α→List Value→Prop) (w:World) (p:Option Addr):OSl n R w p []:=fun j x h=>by simp at h
theorem cellAddr_block (b o:Nat) (sp:Option Nat) (i:Nat):(cellAddr b o sp i).block=b:=by cases i <;> rfl
theorem OSl.below {α:Type} {n:Nat} {R R':α→List Value→Prop} {w w':World} {p:Option Addr} {l:List α} (h:OSl n R w p l) (hb:Below w.heap.size w w') (hR:∀x vs,x ∈ l→R x vs→R' x vs):OSl n R' w' p l:=by
 intro j x hj
 obtain ⟨a,b,o,sp,vs,e1,e2,e3,e4,e5⟩:=h j x hj
 exact ⟨a,b,o,sp,vs,e1,e2,Nat.lt_of_lt_of_le e3 hb.size,hR x vs (List.mem_of_getElem? hj) e4,fun i u hi=>(hb.cell (by rw [cellAddr_block];exact e3)).trans (e5 i u hi)⟩
theorem addG_zero (a:Addr):a.add 0=a:=by unfold Addr.add;rw [if_pos rfl]
theorem addG_succ (a:Addr) (i:Nat):a.add (i+1)=⟨a.block,a.off+(i+1),none⟩:=by unfold Addr.add;rw [if_neg (by omega)]
theorem addG_cell (a:Addr) (i:Nat):a.add i=cellAddr a.block a.off a.spot i:=by
 cases i with
 | zero=>exact addG_zero a
 | succ i=>exact addG_succ a i
section
variable {P:Program} {H:Type} {enc:TypeId × Value→H} {w:World}
theorem slice_open {α:Type} [Inhabited α] {t e:TypeId} {n k:Nat} {R:α→List Value→Prop} (ht:P.underlying t=some (.slice e)) (hc:P.cellsOf e=n) (hn:0<n)
  (hone:∀m cs y,DataW.trod enc P w 0 (fun _=>true) true m e cs=some y → ∃x,R x cs) {c:Value} {y:DataW H × List MemPlace} (h:DataW.trod enc P w 0 (fun _=>true) true k t [c]=some y) :
  ∃(p:Option Addr) (l:List α) (cap:Nat),c = .slice p l.length cap∧l.length≤maxLen∧OSl n R w p l:=by
 rcases Go.Deep.open_slice ht h with ⟨hcs,_⟩ | ⟨a,len,cap,m,k',D,Pl,hcs,_,hl,hm,hmm,_,hi⟩
 ·
  simp at hcs
  subst hcs
  exact ⟨none,[],0,rfl,Nat.zero_le _,OSl.nil _ _ _ _⟩
 ·
  simp at hcs hmm
  subst hcs
  have each:∀i,∃x:α,i<len → ∃(b o:Nat) (sp:Option Nat) (vs:List Value),a.add (i*n)=⟨b,o,sp⟩∧b<w.heap.size∧R x vs∧∀j u,vs[j]? = some u→w.cell? (cellAddr b o sp j)=some u:=by
   intro i
   by_cases hil:i<len
   ·
    obtain ⟨cs',h1,h2⟩:=hi i (by omega)
    rw [hc] at h1
    obtain ⟨x,hx⟩:=hone _ _ _ h2
    obtain ⟨_,hlen,hat⟩:=World.cells?_some h1
    refine ⟨x,fun _=>⟨_,_,_,cs',rfl,?_,hx,fun j u hj=>?_⟩⟩
    ·
     have hj0:0<n:=hn
     have:=hat 0 (by omega)
     rw [addG_zero] at this
     obtain ⟨v,hv⟩:∃v,cs'[0]? = some v:=⟨_,List.getElem?_eq_getElem (by omega)⟩
     exact World.block_lt_of_cell? w _ (this.trans hv)
    ·
     have hj2:=(List.getElem?_eq_some_iff.1 hj).1
     have:=hat j (by omega)
     rw [addG_cell] at this
     exact this.trans hj
   ·
    exact ⟨default,fun h=>absurd h hil⟩
  refine ⟨some a,(List.range len).map fun i=>Classical.choose (each i),cap,by simp,by simp;omega,fun j f hj=>?_⟩
  rw [List.getElem?_map] at hj
  obtain ⟨i,hr,rfl⟩:=Option.map_eq_some_iff.1 hj
  obtain ⟨h1,h2⟩:j<len∧j=i:=by
   have hlt:=(List.getElem?_eq_some_iff.1 hr).1
   simp at hlt
   rw [List.getElem?_range hlt] at hr
   exact ⟨hlt,by simpa using hr⟩
  subst h2
  obtain ⟨b,o,sp,vs,e1,e2,e3,e4⟩:=Classical.choose_spec (each j) h1
  exact ⟨a,b,o,sp,vs,rfl,e1,e2,e3,e4⟩
end
end Go.Proofs.YtgnfmopcialllaaGreatDoor
set_option linter.unusedSimpArgs false
set_option linter.unusedVariables false
namespace Go.Proofs.YtgnfmopcialllaaGreatDoor
open Go.RowKit
namespace Ix
def dig (n:Int):List UInt8:=Cnt.text n 0
theorem dig_eq (n:Int):∃m:Nat,m≤999999∧Cnt.cut n=(m:Int)∧dig n=Cnt.decF 6 m:=by
 have h0:=Cnt.cut_lo n
 have h1:=Cnt.cut_hi n
 refine ⟨(Cnt.cut n).toNat,by omega,by omega,?_⟩
 unfold dig
 rw [Cnt.text_cut]
 have e:Cnt.cut n=(((Cnt.cut n).toNat:Nat):Int):=by omega
 obtain ⟨m,hm⟩:∃m,m=(Cnt.cut n).toNat:=⟨_,rfl⟩
 rw [←hm] at e ⊢
 rw [e,Cnt.text_dec _ (by omega) 0 (by simp) (by simp) (by simp)]
theorem dig_length (n:Int):(dig n).length≤6:=by
 obtain ⟨m,_,_,h⟩:=dig_eq n
 rw [h]
 exact Cnt.decF_length 6 m
end Ix
theorem less_cmp:∀a b:List UInt8,Op.bytesLess a b=decide (Ix.cmpB a b<0)
 | [],[]=>rfl
 | [],_::_=>rfl
 | _::_,[]=>rfl
 | x::a,y::b=>by
  rw [Ix.cmpB_cons,Op.bytesLess,less_cmp a b]
  by_cases h1:x<y
  ·
   simp [h1]
  ·
   by_cases h2:y<x
   ·
    have h3:x≠y:=fun e=>by rw [e] at h2;exact absurd h2 (UInt8.lt_irrefl _)
    simp [h1,h2,h3]
   ·
    have h3:x=y:=UInt8.le_antisymm (UInt8.not_lt.1 h2) (UInt8.not_lt.1 h1)
    subst h3
    simp
theorem ix_compare (a b:List UInt8) (w:World):Calls Tryz.prog 75 #[.string ⟨a.toArray⟩,.string ⟨b.toArray⟩] w fun e w'=>e = .returned (.int .i64 (Ix.cmpB a b))∧w'=w:=Tryz.strings_Compare ⟨a.toArray⟩ ⟨b.toArray⟩ w
attribute [local go_sem] Oper.semAt_some
namespace Ix
theorem take_snoc {α:Type} (l:List α) (k:Nat) (x:α) (h:l[k]? = some x):l.take (k+1)=l.take k++[x]:=by rw [List.take_add_one,h];rfl
end Ix
theorem own_at {w w':World} {base e size n:Nat} {v:Value} {xs:List Value} (h:w.ownsRow base e size v n xs) (hb:∀k,v.ownBlock=some k→w'.heap[k]? = w.heap[k]?):w'.ownsRow base e size v n xs:=by
 refine ⟨h.1,?_⟩
 rcases h.2 with ⟨hv,h0⟩ | ⟨g,cap,cur,hv,hg,hh,r⟩
 ·
  exact .inl ⟨hv,h0⟩
 ·
  exact .inr ⟨g,cap,cur,hv,hg,(hb g (by rw [hv];rfl)).trans hh,r⟩
theorem wpList_append_run {P:Program} {ops:Array Oper} {rest:List Oper} {o:Oper} {a:Act} {w w':World} {Q:Exit→Act→World→Prop} {v0 xv v':Value} (hgd:o.guard=none) (s x:Operand) (t:TypeId)
  (ho:o.op = .call { callee:=.builtin .append,args:=#[s,x],argTypes:=#[t,t] }) (hs:a.eval s=v0) (hx:a.eval x=xv) (hr:(Builtin.append_ #[t,t] o.type #[v0,xv]).run P w = .ok v' w')
  (h:wpList P ops Q rest (a.put o.dst v') w'):wpList P ops Q (o::rest) a w:=by
 refine wpList_plain hgd fun K hK=>?_
 unfold Oper.wp execOp
 simp only [ho,resolve,invoke,builtin,Sem.run_bind,Sem.run_pure,Result.andThen_ok,List.map_toArray,List.map_cons,List.map_nil,hs,hx,hr]
 exact hK _ _ h
theorem OwnL.lower {α:Type} {B B':Nat} {t:TypeId} {n:Nat} {R:α→List Value→Prop} {W:World} {v:Value} {l:List α} (h:OwnL B t n R W v l) (hb:B' ≤ B):OwnL B' t n R W v l:=by
 obtain ⟨fl,⟨h0,h1⟩,h2⟩:=h
 refine ⟨fl,⟨h0,?_⟩,h2⟩
 rcases h1 with h1 | ⟨g,cap,cur,hv,hg,r⟩
 ·
  exact .inl h1
 ·
  exact .inr ⟨g,cap,cur,hv,Nat.le_trans hb hg,r⟩
theorem rep_flat {α:Type} {R:α→List Value→Prop} (c:α→List Value) (hR:∀x,R x (c x)):∀l:List α,RepRow R l (l.flatMap c)
 | []=>rfl
 | x::xs=>⟨c x,xs.flatMap c,by rw [List.flatMap_cons],hR x,rep_flat c hR xs⟩
theorem len_flat {α:Type} (c:α→List Value) (n:Nat) (hn:∀x,(c x).length=n):∀l:List α,(l.flatMap c).length=l.length*n
 | []=>by simp
 | x::xs=>by rw [List.flatMap_cons,List.length_append,hn,len_flat c n hn xs,List.length_cons,Nat.succ_mul,Nat.add_comm]
def cF (x:List UInt8 × List UInt8):List Value:=[.string ⟨x.1.toArray⟩,.string ⟨x.2.toArray⟩]
end Go.Proofs.YtgnfmopcialllaaGreatDoor
