/- The walks of package entry's reader: a part of a value. The walks of package entry's reader: a value. The walks of package entry's reader: what stands deferred: an entry's end is caught. The walks of package entry's reader: how an entry is left. The walks of package entry's reader: within an entry. -/
import Derived.Test.YtgnfmopcialllaaGreatDoorTk
import Derived.Test.YtgnfmopcialllaaGreatDoorG02
import Derived.Shelf.Strings.SlTrimAscii
import Derived.Recover
set_option linter.unusedSimpArgs false
set_option linter.unusedVariables false
namespace Go.Proofs.YtgnfmopcialllaaGreatDoor
open Go.RowKit
def digs:List UInt8:=[48,49,50,51,52,53,54,55,56,57]
theorem digs_digit (c:UInt8):digs.contains c=Ent.digit c:=by
 have:=byte_all (fun c=>digs.contains c == Ent.digit c) (by decide +kernel) c
 simpa using this
theorem mem_takeWhile {α:Type} (p:α→Bool):∀(l:List α) (x:α),x ∈ l.takeWhile p→p x=true
 | [],_,h=>by simp at h
 | y::l,x,h=>by
  rw [List.takeWhile_cons] at h
  split at h
  ·
   rcases List.mem_cons.1 h with rfl | h
   ·
    assumption
   ·
    exact mem_takeWhile p l x h
  ·
   simp at h
theorem dropWhile_nil {α:Type} (p:α→Bool):∀l:List α,l.dropWhile p=[] ↔ ∀x ∈ l,p x=true
 | []=>by simp
 | y::l=>by
  rw [List.dropWhile_cons]
  cases hy:p y
  ·
   simp [hy]
  ·
   simpa [hy] using dropWhile_nil p l
theorem trim_nil (l cs:List UInt8):(Lib.trimS l cs=[]) ↔ l.all cs.contains=true:=by
 unfold Lib.trimS Lib.trimLeftS Lib.trimRightS
 rw [dropWhile_nil,List.all_eq_true]
 have h1:=List.takeWhile_append_dropWhile (p:=fun x=>cs.contains x) (l:=l.reverse)
 constructor
 ·
  intro h x hx
  have h2:x ∈ l.reverse:=List.mem_reverse.2 hx
  rw [←h1] at h2
  rcases List.mem_append.1 h2 with h2 | h2
  ·
   exact mem_takeWhile _ _ _ h2
  ·
   exact h x (List.mem_reverse.2 h2)
 ·
  intro h x hx
  have h2:x ∈ l.reverse:=by rw [←h1];exact List.mem_append_right _ (List.mem_reverse.1 hx)
  exact h x (List.mem_reverse.1 h2)
theorem trim_digits (l:List UInt8) (w:World) (hl:l.length≤1000000000) :
  Calls Tryz.prog 215 #[.string ⟨l.toArray⟩,.string ⟨#[48,49,50,51,52,53,54,55,56,57]⟩] w fun e w'=>e = .returned (.string ⟨(Lib.trimS l digs).toArray⟩)∧Below w.heap.size w w' :=
 Any.strings_Trim_laid Tryz.lays160 (by kernel_rfl) ⟨l.toArray⟩ ⟨digs.toArray⟩ w (by rw [size_mk];omega) (by decide) (ascii_of_all (by decide))
theorem reader_isc (s:List UInt8) (r:Nat) (l:List UInt8) (c:UInt8) (n:Int) (hn:(c.toNat:Int)=n) (w:World) (hs:s.length≤maxLen) (h0:c.toNat≠0) (hA:At s r w l) :
  Calls Tryz.prog 126 #[.pointer (some ⟨r,0,none⟩),.int .u8 n] w fun e w'=>e = .returned (.bool (Ent.isB c l))∧At s r w' (Ent.isL c l)∧Moved r w w':=by
 subst hn;exact reader_is s r l c w hs h0 hA
theorem reader_mustc (s:List UInt8) (r:Nat) (l:List UInt8) (c:UInt8) (n:Int) (hn:(c.toNat:Int)=n) (w:World) (hs:s.length≤maxLen) (h0:c.toNat≠0) (hA:At s r w l) :
  Calls Tryz.prog 124 #[.pointer (some ⟨r,0,none⟩),.int .u8 n] w fun e w'=>e=(if Ent.isB c l then .returned (.tuple #[]) else wrongP (Ent.isL c l))∧At s r w' (Ent.isL c l)∧Moved r w w':=by
 subst hn;exact reader_must s r l c w hs h0 hA
abbrev After (s:List UInt8) (r m b:Nat) (v:Value) (w:World) (o:Option (List UInt8)) (σ:Ent.RS) (e:Ending) (w':World):Prop :=
 said (o,σ.rest) e∧∃v',Rdr s r m b w' σ v'∧Step r m v v' w w'
theorem Rdr.away {s:List UInt8} {r m b:Nat} {w:World} {σ:Ent.RS} {v:Value} (h:Rdr s r m b w σ v) {g:Nat} (hg:w.heap.size≤g):g≠r∧g≠m∧v.ownBlock≠some g:=by
 have h1:=h.at'.lt
 obtain ⟨n,_,h2⟩:=h.names
 have h3:=h2.lt
 obtain ⟨fl,h4,_⟩:=h.notes
 refine ⟨by omega,by omega,fun e=>?_⟩
 have:=(h4.lt g e).2
 omega
theorem Step.kept {s:List UInt8} {r m b:Nat} {w W w':World} {σ:Ent.RS} {v v':Value} (h:Rdr s r m b w σ v) (hS:Step r m v v' W w') {g:Nat} (hg:w.heap.size≤g) (hW:g<W.heap.size) (i:Nat):w'.cell? ⟨g,i,none⟩=W.cell? ⟨g,i,none⟩:=by
 obtain ⟨h1,h2,h3⟩:=h.away hg
 exact World.cell?_of_block (hS.block g hW h1 h2 h3)
theorem new_cell (w:World) (u:Value) (t:TypeId):(w.alloc (.cells #[u] t)).cell? ⟨w.heap.size,0,none⟩=some u:=by
 rw [cell_of_row _ _ _ _ _ _ (heap_alloc_new w _)]
 rfl
theorem below_new (w:World) (o:Obj):Below w.heap.size w (w.alloc o):=(Below.refl w.heap.size w).alloc (Nat.le_refl _) o
set_option maxRecDepth 100000 in
set_option maxHeartbeats 1600000 in
theorem reader_part (s:List UInt8) (r m b:Nat) (σ:Ent.RS) (v:Value) (w:World) (hs:s.length≤1000000000) (hR:Rdr s r m b w σ v) :
  Calls Tryz.prog 174 #[.pointer (some ⟨r,0,none⟩)] w fun e w'=>After s r m b v w (Ent.part σ).1 (Ent.part σ).2 e w':=by
 have hsm:s.length≤maxLen:=by unfold maxLen;omega
 have H34:=η (reader_isc s r σ.rest 34 34 rfl w hsm (by decide) hR.at')
 obtain ⟨o,ho⟩:∃o,Ent.part σ=o:=⟨_,rfl⟩
 rw [ho]
 unfold Ent.part at ho
 have HR:=η hR;clear hR
 cases h34:Ent.isB 34 σ.rest
 ·
  rw [h34] at ho H34
  rw [if_neg (by simp)] at ho
  have hl34:Ent.isL 34 σ.rest=Ent.bl σ.rest:=Ent.isL_no _ _ h34
  rw [hl34] at H34
  have h123:∀w',At s r w' (Ent.bl σ.rest)→Calls Tryz.prog 126 #[.pointer (some ⟨r,0,none⟩),.int .u8 123] w' fun e w''=>e = .returned (.bool (Ent.isB 123 σ.rest))∧At s r w'' (Ent.isL 123 σ.rest)∧Moved r w' w'':=by
   intro w' hA
   have h:=reader_isc s r _ 123 123 rfl w' hsm (by decide) hA
   rw [Ent.isB_bl,Ent.isL_bl] at h
   exact h
  clear hl34 h34
  cases hb:Ent.isB 123 σ.rest
  ·
   rw [hb] at ho h123
   rw [if_neg (by simp)] at ho
   rw [Ent.isL_no _ _ hb] at h123
   have H123:=η h123;clear h123
   have hmk:∀w',At s r w' (Ent.bl σ.rest)→Calls Tryz.prog 123 #[.pointer (some ⟨r,0,none⟩)] w' fun e w''=>said (Ent.mark σ.rest) e∧At s r w'' (Ent.mark σ.rest).2∧Moved r w' w'':=by
    intro w' hA
    have h:=reader_mark s r _ w' hsm hA
    rw [Ent.mark_bl] at h
    exact h
   have Hmk:=η hmk;clear hmk hb
   cases hq:(Ent.mark σ.rest).1 with
   | none =>
    have Hl:=η (Ent.mark_len σ.rest)
    rw [hq] at ho
    dsimp only at ho
    have Ho:=η ho.symm;have Hq:=η hq;clear hq ho
    go_enter Tryz.func174, Tryz.ntmps174
    go_wp2_with (first
     | (go_at_call 126; with_reducible refine H34.out.mono ?_;rintro e w2 ⟨rfl,hA2,hM2⟩)
     | (go_at_call 126; with_reducible refine (H123.out _ hA2).mono ?_;rintro e w3 ⟨rfl,hA3,hM3⟩)
     | (go_at_call 123; refine (Hmk.out _ hA3).mono ?_;rintro e w4 ⟨he4,hA4,hM4⟩;simp only [said,Hq.out] at he4;subst he4))
    refine ⟨rfl,?_⟩
    rw [Ho.out]
    exact ⟨rfl,v,HR.out.moved ((hM2.trans hM3).trans hM4) hA4 (by have:=Hl.out;omega),((hM2.trans hM3).trans hM4).step m v⟩
   | some t =>
    obtain ⟨hne,hlt⟩:=Ent.mark_lt σ.rest t hq
    rw [hq] at ho
    dsimp only at ho
    have htl0:t.length≤1000000000:=by
     have h1:=congrArg List.length (List.takeWhile_append_dropWhile (p:=Ent.sign) (l:=Ent.bl σ.rest))
     have h2:t=(Ent.bl σ.rest).takeWhile Ent.sign:=by
      unfold Ent.mark at hq
      dsimp only at hq
      split at hq
      ·
       cases hq
      ·
       cases hq;rfl
     rw [List.length_append,←h2] at h1
     have h3:=Ent.bl_len σ.rest
     obtain ⟨n,h4,_⟩:=HR.out.names
     omega
    have htl:t.length≤maxLen:=by unfold maxLen;omega
    have hbud:(Ent.mark σ.rest).2.length+(b+1)≤σ.rest.length+b:=by omega
    obtain ⟨u,hu⟩:∃u,Ent.small t=u:=⟨_,rfl⟩
    have hul:u.length≤1000000000:=by rw [←hu];unfold Ent.small;rw [List.length_map];exact htl0
    rw [hu] at ho
    obtain ⟨z,hz⟩:∃z,Lib.trimS u digs=z:=⟨_,rfl⟩
    have hzd:z=[] ↔ u.all Ent.digit=true:=by
     rw [←hz,trim_nil]
     have:u.all digs.contains=u.all Ent.digit:=by congr 1;funext c;exact digs_digit c
     rw [this]
    have Hq:=η hq;have Hu:=η hu;have Hz:=η hz;clear hq hu hz
    cases hdg:u.all Ent.digit
    ·
     have hz1:z.isEmpty=false:=by
      cases hze:z with
      | nil=>rw [hzd.1 hze] at hdg;cases hdg
      | cons c l=>rfl
     rw [hdg,if_neg (by simp)] at ho
     clear hzd hdg
     cases hnm:σ.names u with
     | none =>
      rw [hnm] at ho
      dsimp only at ho
      have Ho:=η ho.symm;have Hnm:=η hnm;clear ho hnm
      go_enter Tryz.func174, Tryz.ntmps174
      go_wp2_with (first
     | (go_at_call 126; with_reducible refine H34.out.mono ?_;rintro e w2 ⟨rfl,hA2,hM2⟩)
     | (go_at_call 126; with_reducible refine (H123.out _ hA2).mono ?_;rintro e w3 ⟨rfl,hA3,hM3⟩)
     | (go_at_call 123; refine (Hmk.out _ hA3).mono ?_;rintro e w4 ⟨he4,hA4,hM4⟩;simp only [said,Hq.out] at he4;subst he4)
     | (go_at_call 122; refine (entry_small t _ htl).mono ?_;rintro e w5 ⟨rfl,hb5⟩;have HR5:=η ((HR.out.moved ((hM2.trans hM3).trans hM4) hA4 hbud).below hb5);have HS5:=η ((((hM2.trans hM3).trans hM4).step m v).trans (Step.below hb5 r m v));clear hA2 hM2 hA3 hM3 hA4 hM4 hb5;rw [Hu.out])
     | (go_at_call 215; refine (trim_digits u _ hul).mono ?_;rintro e w6 ⟨rfl,hb6⟩;have HR6:=η (HR5.out.below hb6);have HS6:=η (HS5.out.trans (Step.below hb6 r m v));have e3:=HR6.out.mcell;obtain ⟨n6,hn6,hm6⟩:=HR6.out.names;have HM6:=η hm6;clear HR5 HS5 hb6 hn6 hm6;rw [Hz.out])
       | (at_lookup;go_loud (refine wpList_smap_look rfl (.tmp 27) (.tmp 28) rfl m _ _ rfl HM6.out u rfl (by unfold maxLen;omega) none Hnm.out ?_))
       | (go_at_call 68; refine (reader_note s r m b _ v _ 4 u hs (HR6.out.below (below_new w6 _))).mono ?_;rintro e w7 ⟨rfl,v7,hR7,hS7⟩;have ex:=(Step.kept HR6.out hS7 (Nat.le_refl _) (lt_alloc w6 _) 0).trans (new_cell w6 _ _)))
      go_ret
      rw [Ho.out]
      exact ⟨rfl,v7,hR7,HS6.out.trans ((Step.below (below_new w6 _) r m v).trans hS7)⟩
     | some y =>
      rw [hnm] at ho
      dsimp only at ho
      have Ho:=η ho.symm;have Hnm:=η hnm;clear ho hnm
      go_enter Tryz.func174, Tryz.ntmps174
      go_wp2_with (first
     | (go_at_call 126; with_reducible refine H34.out.mono ?_;rintro e w2 ⟨rfl,hA2,hM2⟩)
     | (go_at_call 126; with_reducible refine (H123.out _ hA2).mono ?_;rintro e w3 ⟨rfl,hA3,hM3⟩)
     | (go_at_call 123; refine (Hmk.out _ hA3).mono ?_;rintro e w4 ⟨he4,hA4,hM4⟩;simp only [said,Hq.out] at he4;subst he4)
     | (go_at_call 122; refine (entry_small t _ htl).mono ?_;rintro e w5 ⟨rfl,hb5⟩;have HR5:=η ((HR.out.moved ((hM2.trans hM3).trans hM4) hA4 hbud).below hb5);have HS5:=η ((((hM2.trans hM3).trans hM4).step m v).trans (Step.below hb5 r m v));clear hA2 hM2 hA3 hM3 hA4 hM4 hb5;rw [Hu.out])
     | (go_at_call 215; refine (trim_digits u _ hul).mono ?_;rintro e w6 ⟨rfl,hb6⟩;have HR6:=η (HR5.out.below hb6);have HS6:=η (HS5.out.trans (Step.below hb6 r m v));have e3:=HR6.out.mcell;obtain ⟨n6,hn6,hm6⟩:=HR6.out.names;have HM6:=η hm6;clear HR5 HS5 hb6 hn6 hm6;rw [Hz.out])
       | (at_lookup;go_loud (refine wpList_smap_look rfl (.tmp 27) (.tmp 28) rfl m _ _ rfl HM6.out u rfl (by unfold maxLen;omega) (some y) Hnm.out ?_)))
      go_ret
      rw [Ho.out]
      exact ⟨rfl,v,(HR6.out.mono (by omega)).below (below_new w6 _),HS6.out.trans (Step.below (below_new w6 _) r m v)⟩
    ·
     have hz1:z=[]:=hzd.2 hdg
     subst hz1
     rw [hdg,if_pos rfl] at ho
     have Ho:=η ho.symm
     clear hzd hdg ho
     go_enter Tryz.func174, Tryz.ntmps174
     go_wp2_with (first
     | (go_at_call 126; with_reducible refine H34.out.mono ?_;rintro e w2 ⟨rfl,hA2,hM2⟩)
     | (go_at_call 126; with_reducible refine (H123.out _ hA2).mono ?_;rintro e w3 ⟨rfl,hA3,hM3⟩)
     | (go_at_call 123; refine (Hmk.out _ hA3).mono ?_;rintro e w4 ⟨he4,hA4,hM4⟩;simp only [said,Hq.out] at he4;subst he4)
     | (go_at_call 122; refine (entry_small t _ htl).mono ?_;rintro e w5 ⟨rfl,hb5⟩;have HR5:=η ((HR.out.moved ((hM2.trans hM3).trans hM4) hA4 hbud).below hb5);have HS5:=η ((((hM2.trans hM3).trans hM4).step m v).trans (Step.below hb5 r m v));clear hA2 hM2 hA3 hM3 hA4 hM4 hb5;rw [Hu.out])
     | (go_at_call 215; refine (trim_digits u _ hul).mono ?_;rintro e w6 ⟨rfl,hb6⟩;have HR6:=η (HR5.out.below hb6);have HS6:=η (HS5.out.trans (Step.below hb6 r m v));have e3:=HR6.out.mcell;obtain ⟨n6,hn6,hm6⟩:=HR6.out.names;have HM6:=η hm6;clear HR5 HS5 hb6 hn6 hm6;rw [Hz.out]))
     go_ret
     rw [Ho.out]
     exact ⟨rfl,v,HR6.out.mono (by omega),HS6.out⟩
  ·
   rw [hb] at ho h123
   rw [if_pos rfl] at ho
   have Ho:=η ho.symm;have Hb:=η hb;have H123:=η h123;clear ho hb h123
   have Hl1:=η (Ent.isL_lt 123 σ.rest Hb.out)
   have Hl2:=η (Ent.brace_len (Ent.isL 123 σ.rest) 1 [])
   cases hq:(Ent.braced (Ent.isL 123 σ.rest)).1 with
   | none =>
    have Hq:=η hq;clear hq
    go_enter Tryz.func174, Tryz.ntmps174
    go_wp2_with (first
     | (go_at_call 126; with_reducible refine H34.out.mono ?_;rintro e w2 ⟨rfl,hA2,hM2⟩)
     | (go_at_call 126; with_reducible refine (H123.out _ hA2).mono ?_;rintro e w3 ⟨rfl,hA3,hM3⟩)
     | (go_at_call 214; refine (reader_braced _ _ _ _ hs hA3).mono ?_;rintro e w4 ⟨he4,hA4,hM4⟩;simp only [said,Hq.out] at he4;subst he4))
    refine ⟨rfl,?_⟩
    rw [Ho.out,Hq.out]
    exact ⟨rfl,v,HR.out.moved ((hM2.trans hM3).trans hM4) hA4 (by have:=Hl1.out;have:=Hl2.out;unfold Ent.braced;omega),((hM2.trans hM3).trans hM4).step m v⟩
   | some t =>
    have Hq:=η hq;clear hq
    go_enter Tryz.func174, Tryz.ntmps174
    go_wp2_with (first
     | (go_at_call 126; with_reducible refine H34.out.mono ?_;rintro e w2 ⟨rfl,hA2,hM2⟩)
     | (go_at_call 126; with_reducible refine (H123.out _ hA2).mono ?_;rintro e w3 ⟨rfl,hA3,hM3⟩)
     | (go_at_call 214; refine (reader_braced _ _ _ _ hs hA3).mono ?_;rintro e w4 ⟨he4,hA4,hM4⟩;simp only [said,Hq.out] at he4;subst he4))
    go_ret
    rw [Ho.out,Hq.out]
    exact ⟨rfl,v,HR.out.moved ((hM2.trans hM3).trans hM4) hA4 (by have:=Hl1.out;have:=Hl2.out;unfold Ent.braced;omega),((hM2.trans hM3).trans hM4).step m v⟩
 ·
  rw [h34] at ho H34
  rw [if_pos rfl] at ho
  have Ho:=η ho.symm;have Hb34:=η h34;clear ho h34
  have hl1:=Ent.isL_lt 34 σ.rest Hb34.out
  have hl2:=Ent.quoted_len (Ent.isL 34 σ.rest)
  have Hl1:=η hl1;have Hl2:=η hl2;clear hl1 hl2
  cases hq:(Ent.quoted (Ent.isL 34 σ.rest)).1 with
  | none =>
   have Hq:=η hq;clear hq
   go_enter Tryz.func174, Tryz.ntmps174
   go_wp2_with (first
    | (go_at_call 126; refine H34.out.mono ?_;rintro e w2 ⟨rfl,hA2,hM2⟩)
    | (go_at_call 213; refine (reader_quoted _ _ _ _ hsm hA2).mono ?_;rintro e w3 ⟨he3,hA3,hM3⟩;simp only [said,Hq.out] at he3;subst he3))
   refine ⟨rfl,?_⟩
   rw [Ho.out,Hq.out]
   exact ⟨rfl,v,HR.out.moved (hM2.trans hM3) hA3 (by have:=Hl1.out;have:=Hl2.out;omega),(hM2.trans hM3).step m v⟩
  | some t =>
   have Hq:=η hq;clear hq
   go_enter Tryz.func174, Tryz.ntmps174
   go_wp2_with (first
    | (go_at_call 126; refine H34.out.mono ?_;rintro e w2 ⟨rfl,hA2,hM2⟩)
    | (go_at_call 213; refine (reader_quoted _ _ _ _ hsm hA2).mono ?_;rintro e w3 ⟨he3,hA3,hM3⟩;simp only [said,Hq.out] at he3;subst he3))
   go_ret
   rw [Ho.out,Hq.out]
   exact ⟨rfl,v,HR.out.moved (hM2.trans hM3) hA3 (by have:=Hl1.out;have:=Hl2.out;omega),(hM2.trans hM3).step m v⟩
end Go.Proofs.YtgnfmopcialllaaGreatDoor
set_option linter.unusedSimpArgs false
set_option linter.unusedVariables false
namespace Go.Proofs.YtgnfmopcialllaaGreatDoor
open Go.RowKit
namespace Ent
def NamesOk (σ:RS):Prop:=∀x t,σ.names x=some t→t.length≤1000
theorem takeWhile_len {α:Type} (p:α→Bool) (l:List α):(l.takeWhile p).length≤l.length:=List.Sublist.length_le (List.takeWhile_sublist _)
theorem quoted_tlen (l t:List UInt8) (h:(quoted l).1=some t):t.length≤l.length:=by
 unfold quoted at h
 split at h
 ·
  cases h
 ·
  cases h;exact takeWhile_len _ _
theorem brace_tlen:∀(l:List UInt8) (d:Nat) (acc t:List UInt8),(brace d acc l).1=some t→t.length≤acc.length+l.length
 | [],_,_,_,h=>by simp [brace] at h
 | x::r,d,acc,t,h=>by
  unfold brace at h
  dsimp only at h
  generalize (if x == 123 then d+1 else if x == 125 then d - 1 else d)=d' at h
  cases d' with
  | zero=>simp at h;rw [←h];omega
  | succ k =>
   have:=brace_tlen r (k+1) (acc++[x]) t (by simpa using h)
   simp at this ⊢
   omega
theorem mark_tlen (l t:List UInt8) (h:(mark l).1=some t):t.length≤l.length:=by
 unfold mark at h
 dsimp only at h
 split at h
 ·
  cases h
 ·
  cases h;exact Nat.le_trans (takeWhile_len _ _) (bl_len l)
theorem part_names (σ:RS):(part σ).2.names=σ.names:=by
 unfold part
 split
 ·
  rfl
 ·
  split
  ·
   rfl
  ·
   split
   ·
    rfl
   ·
    split
    ·
     rfl
    ·
     split <;> rfl
theorem part_tlen (σ:RS) (hN:NamesOk σ) (t:List UInt8) (h:(part σ).1=some t):t.length≤σ.rest.length+1000:=by
 unfold part at h
 have h1:=isL_len 34 σ.rest
 have h2:=isL_len 123 σ.rest
 split at h
 ·
  have:=quoted_tlen _ _ h;omega
 ·
  split at h
  ·
   have:=brace_tlen _ _ _ _ h;simp at this;omega
  ·
   split at h
   ·
    cases h
   ·
    rename_i m hm
    have h3:=mark_tlen _ _ hm
    split at h
    ·
     cases h;unfold small;rw [List.length_map];omega
    ·
     split at h
     ·
      rename_i t2 ht2
      cases h;have:=hN _ _ ht2;omega
     ·
      cases h;simp
theorem part_len (σ:RS):(part σ).2.rest.length≤σ.rest.length:=by
 unfold part
 have h1:=isL_len 34 σ.rest
 have h2:=isL_len 123 σ.rest
 have h3:=mark_len σ.rest
 split
 ·
  exact Nat.le_trans (quoted_len _) h1
 ·
  split
  ·
   exact Nat.le_trans (brace_len _ _ _) h2
  ·
   split
   ·
    exact h3
   ·
    split
    ·
     exact h3
    ·
     split
     ·
      exact h3
     ·
      exact h3
end Ent
theorem At.len {s:List UInt8} {r:Nat} {w:World} {l:List UInt8} (h:At s r w l):s.length - placeOf r w=l.length:=by
 obtain ⟨k,h1,h2,h3⟩:=h.place
 unfold placeOf
 rw [h3,←h2]
 simp
def oneIf (v:Value):Nat:=match v with | .bool true=>1 | _=>0
set_option maxRecDepth 100000 in
set_option maxHeartbeats 1600000 in
theorem reader_value (s:List UInt8) (r m b:Nat) (σ:Ent.RS) (v:Value) (w:World) (hs:s.length≤1000000000) (hN:Ent.NamesOk σ) (hR:Rdr s r m b w σ v) :
  Calls Tryz.prog 125 #[.pointer (some ⟨r,0,none⟩)] w fun e w'=>After s r m b v w (Ent.value σ).1 (Ent.value σ).2 e w':=by
 have hsm:s.length≤maxLen:=by unfold maxLen;omega
 obtain ⟨o,ho⟩:∃o,Ent.value σ=o:=⟨_,rfl⟩
 rw [ho]
 have Ho:=η ho;have HR:=η hR;have HN:=η hN;clear ho hR hN
 go_enter Tryz.func125, Tryz.ntmps125
 go_wp2_with fail
 go_loopw [3,4] (fun sv mv wr=>∃(σ1:Ent.RS) (acc:List UInt8) (v1:Value) (more:Bool),sv = .string ⟨acc.toArray⟩∧mv = .bool more∧Rdr s r m b wr σ1 v1∧Step r m v v1 w wr∧acc.length≤1000∧Ent.NamesOk σ1 ∧
   (more=true → ∃n,σ1.rest.length<n∧o=Ent.valueN n acc σ1)∧(more=false→o=(some acc,σ1))) (fun _ mv wr=>(s.length - placeOf r wr)+oneIf mv)
 case atStart=>exact ⟨σ,[],v,true,rfl,rfl,HR.out,Step.refl _ _ _ _,by simp,HN.out,fun _=>⟨_,Nat.lt_succ_self _,Ho.out.symm⟩,fun h=>by cases h⟩
 case round =>
  clear Ho HR HN
  obtain ⟨σ1,acc,v1,more,rfl,rfl,hR,hS,hacc,hN,ht,hf⟩:=hrel
  have HR:=η hR;have HS:=η hS;have HN:=η hN;clear hR hS hN
  cases more
  ·
   have h1:=hf rfl
   have H1:=η h1;clear ht hf h1
   go_wp2_with fail
   go_ret
   rw [H1.out]
   exact ⟨rfl,v1,HR.out,HS.out⟩
  ·
   obtain ⟨n,hn,h1⟩:=ht rfl
   clear ht hf
   obtain ⟨n,rfl⟩:∃k,n=k+1:=⟨n - 1,by omega⟩
   unfold Ent.valueN at h1
   have Hn:=η hn;clear hn
   cases hp:(Ent.part σ1).1 with
   | none =>
    rw [hp] at h1
    dsimp only at h1
    have H1:=η h1;have Hp:=η hp;clear h1 hp
    go_wp2_with (go_at_call 174; refine (reader_part s r m b σ1 v1 _ hs HR.out).mono ?_;rintro e w2 ⟨he2,v2,hR2,hS2⟩;simp only [said,Hp.out] at he2;subst he2)
    refine ⟨rfl,?_⟩
    rw [H1.out]
    exact ⟨rfl,v2,hR2,HS.out.trans hS2⟩
   | some t =>
    rw [hp] at h1
    dsimp only at h1
    have htl:t.length≤1000001000:=by
     have h2:=Ent.part_tlen σ1 HN.out t hp
     obtain ⟨n,h4,_⟩:=HR.out.names
     omega
    obtain ⟨q,hq⟩:∃q:Nat,q=min (acc++t).length 1000:=⟨_,rfl⟩
    have hq1:min ((acc.length:Int)+(t.length:Int)) 1000=(q:Int):=by rw [hq,List.length_append];omega
    have hq2:q≤acc.length+t.length:=by rw [hq,List.length_append];exact Nat.min_le_left _ _
    have hex:((⟨acc.toArray⟩:ByteArray)++⟨t.toArray⟩).extract 0 q=⟨((acc++t).take 1000).toArray⟩:=by
     rw [append_data,extract_any,hq,List.drop_zero,Nat.sub_zero]
     congr 2
     by_cases h:(acc++t).length≤1000
     ·
      rw [Nat.min_eq_left h,List.take_of_length_le (Nat.le_refl _),List.take_of_length_le h]
     ·
      rw [Nat.min_eq_right (by omega)]
    have hN2:Ent.NamesOk (Ent.part σ1).2:=by unfold Ent.NamesOk;rw [Ent.part_names];exact HN.out
    have hl2:=Ent.part_len σ1
    have hov:¬9223372036854775807<acc.length+t.length:=by omega
    have Hp:=η hp;have HN2:=η hN2;have Hl2:=η hl2;clear hp hN2 hl2
    obtain ⟨a2,ha2⟩:∃a2,(acc++t).take 1000=a2:=⟨_,rfl⟩
    rw [ha2] at hex h1
    have ha2l:a2.length≤1000:=by rw [←ha2];simp;omega
    have H1:=η h1;have Ha2l:=η ha2l
    clear ha2 ha2l h1 hq
    cases hb:Ent.isB 35 (Ent.part σ1).2.rest
    ·
     have Hb:=η hb;clear hb
     rw [Hb.out] at H1
     go_wp2_with (first
      | (go_at_call 174; refine (reader_part s r m b σ1 v1 _ hs HR.out).mono ?_;rintro e w2 ⟨he2,v2,hR2,hS2⟩;simp only [said,Hp.out] at he2;subst he2)
      | (go_at_call 126; refine (reader_isc s r _ 35 35 rfl _ hsm (by decide) hR2.at').mono ?_;rintro e w3 ⟨rfl,hA3,hM3⟩;rw [Hb.out]))
     go_roundw
     case rel =>
      refine ⟨_,a2,v2,false,rfl,rfl,hR2.moved hM3 hA3 ?_,HS.out.trans (hS2.trans (hM3.step m v2)),Ha2l.out,HN2.out,(fun h=>by cases h),fun _=>H1.out⟩
      have:=Ent.isL_len 35 (Ent.part σ1).2.rest
      omega
     case measure =>
      rw [hA3.len,HR.out.at'.len]
      have h1:=Ent.isL_len 35 (Ent.part σ1).2.rest
      have h2:=Hl2.out
      simp only [oneIf]
      omega
    ·
     have Hb:=η hb;clear hb
     rw [Hb.out] at H1
     go_wp2_with (first
      | (go_at_call 174; refine (reader_part s r m b σ1 v1 _ hs HR.out).mono ?_;rintro e w2 ⟨he2,v2,hR2,hS2⟩;simp only [said,Hp.out] at he2;subst he2)
      | (go_at_call 126; refine (reader_isc s r _ 35 35 rfl _ hsm (by decide) hR2.at').mono ?_;rintro e w3 ⟨rfl,hA3,hM3⟩;rw [Hb.out]))
     have h3:=Ent.isL_lt 35 (Ent.part σ1).2.rest Hb.out
     have h2:=Hl2.out
     have h4:=Hn.out
     have H3:=η h3;have H2:=η h2;have H4:=η h4;clear h2 h3 h4
     go_roundw
     case rel =>
      refine ⟨_,a2,v2,true,rfl,rfl,hR2.moved hM3 hA3 ?_,HS.out.trans (hS2.trans (hM3.step m v2)),Ha2l.out,HN2.out,(fun _=>⟨n,?_,H1.out⟩),fun h=>by cases h⟩
      ·
       have:=H3.out;omega
      ·
       show (Ent.isL 35 (Ent.part σ1).2.rest).length<n
       have:=H3.out;have:=H2.out;have:=H4.out;omega
     case measure =>
      rw [hA3.len,HR.out.at'.len]
      have:=H3.out;have:=H2.out
      simp only [oneIf]
      omega
end Go.Proofs.YtgnfmopcialllaaGreatDoor
set_option linter.unusedSimpArgs false
set_option linter.unusedVariables false
namespace Go.Proofs.YtgnfmopcialllaaGreatDoor
open Go.RowKit
structure Res3 (w:World) (g:Nat) (k y:List UInt8) (vf:Value) (is:Bool) (e:Int):Prop where
 k:w.cell? ⟨g,0,none⟩=some (.string ⟨k.toArray⟩)
 y:w.cell? ⟨g,1,none⟩=some (.string ⟨y.toArray⟩)
 vf:w.cell? ⟨g,2,none⟩=some vf
 is:w.cell? ⟨g+1,0,none⟩=some (.bool is)
 e:w.cell? ⟨g+2,0,none⟩=some (.int .i64 e)
 fk:∀i,i<3→w.frozen? ⟨g,i,none⟩=false
 fi:w.frozen? ⟨g+1,0,none⟩=false
 fe:w.frozen? ⟨g+2,0,none⟩=false
 lt:g+2<w.heap.size
def put3 (w:World) (g:Nat) (k y:List UInt8) (vf:Value) (is:Bool) (e:Int):World :=
 ((((w.setCell ⟨g,0,none⟩ (.string ⟨k.toArray⟩)).setCell ⟨g,1,none⟩ (.string ⟨y.toArray⟩)).setCell ⟨g,2,none⟩ vf).setCell ⟨g+1,0,none⟩ (.bool is)).setCell ⟨g+2,0,none⟩ (.int .i64 e)
theorem Res3.put {w:World} {g:Nat} {k y:List UInt8} {vf:Value} {is:Bool} {e:Int} (h:Res3 w g k y vf is e) (k' y':List UInt8) (vf':Value) (is':Bool) (e':Int):Res3 (put3 w g k' y' vf' is' e') g k' y' vf' is' e':=by
 have ot:∀(W:World) (a b:Addr) (v:Value),a≠b→(W.setCell b v).cell? a=W.cell? a:=fun W a b v hne=>World.cell?_setCell_other _ _ _ _ hne.symm
 unfold put3
 refine ⟨?_,?_,?_,?_,?_,fun i hi=>by simpa using h.fk i hi,by simpa using h.fi,by simpa using h.fe,by simpa using h.lt⟩
 ·
  rw [ot _ _ _ _ (by simp),ot _ _ _ _ (by simp),ot _ _ _ _ (by simp),ot _ _ _ _ (by simp)]
  exact World.cell?_setCell_same _ _ _ h.k
 ·
  rw [ot _ _ _ _ (by simp),ot _ _ _ _ (by simp),ot _ _ _ _ (by simp)]
  exact World.cell?_setCell_same _ _ _ ((ot _ _ _ _ (by simp)).trans h.y)
 ·
  rw [ot _ _ _ _ (by simp),ot _ _ _ _ (by simp)]
  exact World.cell?_setCell_same _ _ _ (((ot _ _ _ _ (by simp)).trans (ot _ _ _ _ (by simp))).trans h.vf)
 ·
  rw [ot _ _ _ _ (by simp)]
  exact World.cell?_setCell_same _ _ _ ((((ot _ _ _ _ (by simp)).trans (ot _ _ _ _ (by simp))).trans (ot _ _ _ _ (by simp))).trans h.is)
 ·
  exact World.cell?_setCell_same _ _ _ (((((ot _ _ _ _ (by simp)).trans (ot _ _ _ _ (by simp))).trans (ot _ _ _ _ (by simp))).trans (ot _ _ _ _ (by simp))).trans h.e)
theorem put3_block (w:World) (g:Nat) (k y:List UInt8) (vf:Value) (is:Bool) (e:Int) (j:Nat) (h0:j≠g) (h1:j≠g+1) (h2:j≠g+2):(put3 w g k y vf is e).heap[j]? = w.heap[j]?:=by
 unfold put3
 rw [Below.heap_setCell _ _ _ _ h2,Below.heap_setCell _ _ _ _ h1,Below.heap_setCell _ _ _ _ h0,Below.heap_setCell _ _ _ _ h0,Below.heap_setCell _ _ _ _ h0]
theorem put3_size (w:World) (g:Nat) (k y:List UInt8) (vf:Value) (is:Bool) (e:Int):(put3 w g k y vf is e).heap.size=w.heap.size:=by simp [put3]
theorem Res3.below {w w':World} {g:Nat} {k y:List UInt8} {vf:Value} {is:Bool} {e:Int} (h:Res3 w g k y vf is e) (hb:Below w.heap.size w w'):Res3 w' g k y vf is e:=by
 have hl:=h.lt
 exact ⟨(hb.cell (p:=⟨g,0,none⟩) (by show g<_;omega)).trans h.k,(hb.cell (p:=⟨g,1,none⟩) (by show g<_;omega)).trans h.y,(hb.cell (p:=⟨g,2,none⟩) (by show g<_;omega)).trans h.vf,
  (hb.cell (p:=⟨g+1,0,none⟩) (by show g+1<_;omega)).trans h.is,(hb.cell (p:=⟨g+2,0,none⟩) (by show g+2<_;omega)).trans h.e,
  fun i hi=>(hb.frozen (p:=⟨g,i,none⟩) (by show g<_;omega)).trans (h.fk i hi),(hb.frozen (p:=⟨g+1,0,none⟩) (by show g+1<_;omega)).trans h.fi,(hb.frozen (p:=⟨g+2,0,none⟩) (by show g+2<_;omega)).trans h.fe,Nat.lt_of_lt_of_le hl hb.size⟩
theorem assert_nil (w:World):(Instr.typeAssert .nilIface 20 213 true).run Tryz.prog w = .ok (.tuple #[.agg #[.int .i64 0],.bool false]) w:=by kernel_rfl
theorem assert_wrong (e:Int) (w:World):(Instr.typeAssert (.iface 213 (.agg #[.int .i64 e])) 20 213 true).run Tryz.prog w = .ok (.tuple #[.agg #[.int .i64 e],.bool true]) w:=by kernel_rfl
set_option maxRecDepth 100000 in
set_option maxHeartbeats 800000 in
theorem catch_idle (g:Nat) (w:World) :
  CallsD Tryz.prog 121 #[.pointer (some ⟨g,0,none⟩),.pointer (some ⟨g+1,0,none⟩),.pointer (some ⟨g+2,0,none⟩)] .returning w fun e u' w' =>
   e = .returned (.tuple #[])∧u' = .returning∧Below w.heap.size w w':=by
 refine callsD_of_wpS Tryz.func121 rfl fun c₀ cs hu=>?_
 apply wpS_seq
 apply wpS_region
 simp [wpOpsS,go_sem,recoverD,hu,Tryz.ntmps121, Exit.thenS,assert_nil,Array.replicate]
 refine wpS_of_wp ?_
 go_wp2_with fail
 refine ⟨rfl,.returning,by cases c₀;simp_all,?_⟩
 exact ⟨.tuple #[],by rw [results_none (by rfl)],rfl,rfl,below_new w _⟩
set_option maxRecDepth 100000 in
set_option maxHeartbeats 1600000 in
theorem catch_panicking (g:Nat) (k y:List UInt8) (vf:Value) (is:Bool) (e0 e:Int) (w:World) (h:Res3 w g k y vf is e0) :
  CallsD Tryz.prog 121 #[.pointer (some ⟨g,0,none⟩),.pointer (some ⟨g+1,0,none⟩),.pointer (some ⟨g+2,0,none⟩)] (.panicking [{ v:=.iface 213 (.agg #[.int .i64 e]),recovered:=false }]) w fun e' u' w' =>
   e' = .returned (.tuple #[])∧u' = .panicking [{ v:=.iface 213 (.agg #[.int .i64 e]),recovered:=true }]∧Res3 w' g [] [] (.slice none 0 0) false e∧(w'.os=w.os∧w'.tape=w.tape∧w'.output=w.output∧w.heap.size≤w'.heap.size∧∀j,j<w.heap.size→j≠g→j≠g+1→j≠g+2→w'.heap[j]? = w.heap[j]?):=by
 refine callsD_of_wpS Tryz.func121 rfl fun c₀ cs hu=>?_
 apply wpS_seq
 apply wpS_region
 simp [wpOpsS,go_sem,recoverD,hu,Tryz.ntmps121, Exit.thenS,assert_wrong,Array.replicate]
 refine wpS_of_wp ?_
 obtain ⟨W,hW⟩:∃W,W=w.alloc (.cells #[.int .i64 e] 213):=⟨_,rfl⟩
 have hb:Below w.heap.size w W:=by rw [hW];exact below_new w _
 have hlt:=h.lt
 have h':=h.below hb
 have k0:=h'.k;have k1:=h'.y;have k2:=h'.vf;have k3:=h'.is;have k4:=h'.e
 have f0:=h'.fk 0 (by decide);have f1:=h'.fk 1 (by decide);have f2:=h'.fk 2 (by decide);have f3:=h'.fi;have f4:=h'.fe
 have k5:W.cell? ⟨w.heap.size,0,none⟩=some (.int .i64 e):=by rw [hW];exact new_cell w _ _
 rw [←hW]
 have Hb:=η hb;have H':=η h'
 clear h hb hW h'
 go_wp2_with fail
 go_region
 generalize hX:(((((W.setCell ⟨g,0,none⟩ (.string ⟨#[]⟩)).setCell ⟨g,1,none⟩ (.string ⟨#[]⟩)).setCell ⟨g,2,none⟩ (.slice none 0 0)).setCell ⟨g+1,0,none⟩ (.bool false)).setCell ⟨g+2,0,none⟩ (.int .i64 e))=X
 have hX2:put3 W g [] [] (.slice none 0 0) false e=X:=hX
 clear hX
 have h5:=H'.out.put [] [] (.slice none 0 0) false e
 have h6:=put3_block W g [] [] (.slice none 0 0) false e
 have h7:=put3_size W g [] [] (.slice none 0 0) false e
 rw [hX2] at h5 h6 h7
 have hos:X.os=W.os∧X.tape=W.tape∧X.output=W.output:=by rw [←hX2];exact ⟨rfl,rfl,rfl⟩
 have hb:=Hb.out
 refine ⟨rfl,.panicking [{ v:=.iface 213 (.agg #[.int .i64 e]),recovered:=true }],rfl,.tuple #[],results_none rfl _ _ _,rfl,rfl,?_,?_⟩
 ·
  exact ⟨h5.k,h5.y,h5.vf,h5.is,h5.e,h5.fk,h5.fi,h5.fe,h5.lt⟩
 ·
  exact ⟨hos.1.trans hb.os,hos.2.1.trans hb.tape,hos.2.2.trans hb.output,Nat.le_trans hb.size (Nat.le_of_eq h7.symm),fun j hj h0 h1 h2=>(h6 j h0 h1 h2).trans (hb.block j hj)⟩
end Go.Proofs.YtgnfmopcialllaaGreatDoor
set_option linter.unusedSimpArgs false
set_option linter.unusedVariables false
namespace Go.Proofs.YtgnfmopcialllaaGreatDoor
open Go.RowKit
theorem results3 (tmps:Array Value) (w:World) (g:Nat) (k y:List UInt8) (vf:Value) (is:Bool) (e:Int) (h:Res3 w g k y vf is e)
  (h2:tmps[2]?.getD undef = .pointer (some ⟨g,0,none⟩)) (h3:tmps[3]?.getD undef = .pointer (some ⟨g+1,0,none⟩)) (h4:tmps[4]?.getD undef = .pointer (some ⟨g+2,0,none⟩)) :
  (results Tryz.f67 tmps).run Tryz.prog w = .ok (.tuple #[.agg #[.string ⟨k.toArray⟩,.string ⟨y.toArray⟩,vf],.bool is,.int .i64 e]) w:=by
 have k0:=h.k;have k1:=h.y;have k2:=h.vf;have k3:=h.is;have k4:=h.e
 simp [results,Tryz.results67, go_sem,h2,h3,h4,k0,k1,k2,k3,k4]
def tail1 (g:Nat):List Deferred:=[{ target:=.fn (.func 121) #[.pointer (some ⟨g,0,none⟩),.pointer (some ⟨g+1,0,none⟩),.pointer (some ⟨g+2,0,none⟩)],args:=#[] }]
theorem leaves_idle (tmps:Array Value) (w:World) (g:Nat) (k y:List UInt8) (vf:Value) (is:Bool) (e:Int) (h:Res3 w g k y vf is e)
  (h2:tmps[2]?.getD undef = .pointer (some ⟨g,0,none⟩)) (h3:tmps[3]?.getD undef = .pointer (some ⟨g+1,0,none⟩)) (h4:tmps[4]?.getD undef = .pointer (some ⟨g+2,0,none⟩))
  (R:Ending→World→Prop) (hR:∀w',Below w.heap.size w w' → R (.returned (.tuple #[.agg #[.string ⟨k.toArray⟩,.string ⟨y.toArray⟩,vf],.bool is,.int .i64 e])) w') :
  Leaves Tryz.prog Tryz.f67 tmps R (tail1 g) .returning w:=by
 unfold tail1
 refine leaves_cons (f := 121) (args:=#[.pointer (some ⟨g,0,none⟩),.pointer (some ⟨g+1,0,none⟩),.pointer (some ⟨g+2,0,none⟩)]) (by simp) (by simp [go_sem]) ?_
 refine (catch_idle g w).mono ?_
 rintro e' u' w' ⟨rfl,rfl,hb⟩
 exact ⟨_,results3 tmps w' g k y vf is e (h.below hb) h2 h3 h4,hR w' hb⟩
structure Died (g:Nat) (w w':World):Prop where
 os:w'.os=w.os
 tape:w'.tape=w.tape
 output:w'.output=w.output
 size:w.heap.size≤w'.heap.size
 block:∀j,j<w.heap.size→j≠g→j≠g+1→j≠g+2→w'.heap[j]? = w.heap[j]?
theorem leaves_dies (tmps:Array Value) (w:World) (g:Nat) (k y:List UInt8) (vf:Value) (is:Bool) (e0 e:Int) (h:Res3 w g k y vf is e0)
  (h2:tmps[2]?.getD undef = .pointer (some ⟨g,0,none⟩)) (h3:tmps[3]?.getD undef = .pointer (some ⟨g+1,0,none⟩)) (h4:tmps[4]?.getD undef = .pointer (some ⟨g+2,0,none⟩))
  (R:Ending→World→Prop) (hR:∀w',Died g w w' → R (.returned (.tuple #[.agg #[.string ⟨#[]⟩,.string ⟨#[]⟩,.slice none 0 0],.bool false,.int .i64 e])) w') :
  Leaves Tryz.prog Tryz.f67 tmps R (tail1 g) (.panicking [{ v:=.iface 213 (.agg #[.int .i64 e]),recovered:=false }]) w:=by
 unfold tail1
 refine leaves_cons (f := 121) (args:=#[.pointer (some ⟨g,0,none⟩),.pointer (some ⟨g+1,0,none⟩),.pointer (some ⟨g+2,0,none⟩)]) (by simp) (by simp [go_sem]) ?_
 refine (catch_panicking g k y vf is e0 e w h).mono ?_
 rintro e' u' w' ⟨rfl,rfl,hr,hk⟩
 exact ⟨_,results3 tmps w' g [] [] (.slice none 0 0) false e hr h2 h3 h4,hR w' ⟨hk.1,hk.2.1,hk.2.2.1,hk.2.2.2.1,hk.2.2.2.2⟩⟩
end Go.Proofs.YtgnfmopcialllaaGreatDoor
set_option linter.unusedSimpArgs false
set_option linter.unusedVariables false
namespace Go.Proofs.YtgnfmopcialllaaGreatDoor
open Go.RowKit
namespace Ent
theorem pair_bad1 (σ:RS) (h:(mark σ.rest).1=none):pair σ=(none,σ.at (mark σ.rest).2):=by
 unfold pair markS
 dsimp only
 rw [h]
theorem pair_bad2 (σ:RS) (m:List UInt8) (h:(mark σ.rest).1=some m) (h2:isB 61 (mark σ.rest).2=false):pair σ=(none,σ.at (isL 61 (mark σ.rest).2)):=by
 unfold pair markS
 dsimp only
 rw [h]
 dsimp only
 rw [if_neg (by show ¬isB 61 (mark σ.rest).2=true;rw [h2];simp)]
 rfl
theorem pair_bad3 (σ:RS) (m:List UInt8) (h:(mark σ.rest).1=some m) (h2:isB 61 (mark σ.rest).2=true) (h3:(value (σ.at (isL 61 (mark σ.rest).2))).1=none):pair σ=(none,(value (σ.at (isL 61 (mark σ.rest).2))).2):=by
 unfold pair markS
 dsimp only
 rw [h]
 dsimp only
 rw [if_pos (by exact h2)]
 have h4:(value ((σ.at (mark σ.rest).2).at (isL 61 (σ.at (mark σ.rest).2).rest))).1=none:=h3
 rw [h4]
 rfl
theorem pair_ok (σ:RS) (m t:List UInt8) (h:(mark σ.rest).1=some m) (h2:isB 61 (mark σ.rest).2=true) (h3:(value (σ.at (isL 61 (mark σ.rest).2))).1=some t):pair σ=(some (small m,t),(value (σ.at (isL 61 (mark σ.rest).2))).2):=by
 unfold pair markS
 dsimp only
 rw [h]
 dsimp only
 rw [if_pos (by exact h2)]
 have h4:(value ((σ.at (mark σ.rest).2).at (isL 61 (σ.at (mark σ.rest).2).rest))).1=some t:=h3
 rw [h4]
 rfl
end Ent
theorem At.same {s:List UInt8} {r:Nat} {w w':World} {l:List UInt8} (h:At s r w l) (hr:w'.heap[r]? = w.heap[r]?) (hz:w.heap.size≤w'.heap.size):At s r w' l :=
 ⟨(World.cell?_of_block (a:=⟨r,0,none⟩) hr).trans h.text,(let ⟨k,h1,h2,h3⟩:=h.place;⟨k,h1,h2,(World.cell?_of_block (a:=⟨r,1,none⟩) hr).trans h3⟩),(World.frozen?_of_block (a:=⟨r,1,none⟩) hr).trans h.free,Nat.lt_of_lt_of_le h.lt hz⟩
theorem own_same {w w':World} {base e size n:Nat} {v:Value} {xs:List Value} (h:w.ownsRow base e size v n xs) (hb:∀j,v.ownBlock=some j→w'.heap[j]? = w.heap[j]?):w'.ownsRow base e size v n xs:=by
 obtain ⟨h1,h2⟩:=h
 refine ⟨h1,?_⟩
 rcases h2 with ⟨rfl,h0⟩ | ⟨g,cap,cur,rfl,hb',hg,hle,hm,hcs,hcur⟩
 ·
  exact .inl ⟨rfl,h0⟩
 ·
  exact .inr ⟨g,cap,cur,rfl,hb',(hb g rfl).trans hg,hle,hm,hcs,hcur⟩
theorem Rdr.same {s:List UInt8} {r m b:Nat} {w w':World} {σ:Ent.RS} {v:Value} (h:Rdr s r m b w σ v) (hr:w'.heap[r]? = w.heap[r]?) (hm:w'.heap[m]? = w.heap[m]?) (hv:∀j,v.ownBlock=some j→w'.heap[j]? = w.heap[j]?) (hz:w.heap.size≤w'.heap.size) :
  Rdr s r m b w' σ v :=
 ⟨h.at'.same hr hz,(World.cell?_of_block (a:=⟨r,2,none⟩) hr).trans h.kind,(World.frozen?_of_block (a:=⟨r,2,none⟩) hr).trans h.kfree,(World.cell?_of_block (a:=⟨r,3,none⟩) hr).trans h.mcell,(World.cell?_of_block (a:=⟨r,4,none⟩) hr).trans h.ncell,(World.frozen?_of_block (a:=⟨r,4,none⟩) hr).trans h.nfree,
  (let ⟨n,h1,h2⟩:=h.names;⟨n,h1,h2.kept hm⟩),(let ⟨fl,h1,h2⟩:=h.notes;⟨fl,own_same h1 hv,h2⟩),h.lt⟩
theorem Res3.same {w w':World} {g:Nat} {k y:List UInt8} {vf:Value} {is:Bool} {e:Int} (h:Res3 w g k y vf is e) (hb:∀j,g≤j→j≤g+2→w'.heap[j]? = w.heap[j]?) (hz:w.heap.size≤w'.heap.size):Res3 w' g k y vf is e :=
 ⟨(
  World.cell?_of_block (a:=⟨g,0,none⟩) (hb g (by omega) (by omega))).trans h.k,(World.cell?_of_block (a:=⟨g,1,none⟩) (hb g (by omega) (by omega))).trans h.y,(World.cell?_of_block (a:=⟨g,2,none⟩) (hb g (by omega) (by omega))).trans h.vf,
  (World.cell?_of_block (a:=⟨g+1,0,none⟩) (hb (g+1) (by omega) (by omega))).trans h.is,(World.cell?_of_block (a:=⟨g+2,0,none⟩) (hb (g+2) (by omega) (by omega))).trans h.e,
  fun i hi=>(World.frozen?_of_block (a:=⟨g,i,none⟩) (hb g (by omega) (by omega))).trans (h.fk i hi),(World.frozen?_of_block (a:=⟨g+1,0,none⟩) (hb (g+1) (by omega) (by omega))).trans h.fi,(World.frozen?_of_block (a:=⟨g+2,0,none⟩) (hb (g+2) (by omega) (by omega))).trans h.fe,Nat.lt_of_lt_of_le h.lt hz⟩
theorem Rdr.kinded {s:List UInt8} {r m b:Nat} {w:World} {σ:Ent.RS} {v:Value} (h:Rdr s r m b w σ v) (k:List UInt8):Rdr s r m b (w.setCell ⟨r,2,none⟩ (.string ⟨k.toArray⟩)) { σ with kind:=k } v:=by
 have hlt:=h.at'.lt
 have hs:∀i,i≠2→(w.setCell ⟨r,2,none⟩ (.string ⟨k.toArray⟩)).cell? ⟨r,i,none⟩=w.cell? ⟨r,i,none⟩:=fun i hi=>World.cell?_setCell_other _ _ _ _ (fun e=>hi (by cases e;rfl))
 have hz:∀i,(w.setCell ⟨r,2,none⟩ (.string ⟨k.toArray⟩)).frozen? ⟨r,i,none⟩=w.frozen? ⟨r,i,none⟩:=fun i=>by simp
 obtain ⟨n,h1,h2⟩:=h.names
 obtain ⟨p,h3,h4,h5⟩:=h.at'.place
 obtain ⟨fl,h6,h7⟩:=h.notes
 exact ⟨⟨(hs 0 (by decide)).trans h.at'.text,⟨p,h3,h4,(hs 1 (by decide)).trans h5⟩,(hz 1).trans h.at'.free,by simpa using hlt⟩,World.cell?_setCell_same _ _ _ h.kind,(hz 2).trans h.kfree,(hs 3 (by decide)).trans h.mcell,(hs 4 (by decide)).trans h.ncell,(hz 4).trans h.nfree,
  ⟨n,h1,h2.kept (Below.heap_setCell _ _ _ _ (Nat.ne_of_lt h.lt))⟩,⟨fl,h6.kept (grown_set w r 2 _) (own_ne h6),h7⟩,h.lt⟩
theorem step_set (r m:Nat) (v:Value) (w:World) (i:Nat) (u:Value):Step r m v v w (w.setCell ⟨r,i,none⟩ u) :=
 ⟨rfl,rfl,rfl,by simp,fun _ _ hk _ _=>Below.heap_setCell _ _ _ _ hk,.inl rfl⟩
theorem Rdr.named {s:List UInt8} {r m b n:Nat} {w w':World} {σ:Ent.RS} {v:Value} (h:Rdr s r m (b+1) w σ v) (hn:n+σ.notes.length+σ.rest.length+(b+1)≤s.length) {f:List UInt8→Option (List UInt8)} (hm:SMap w' m (n+1) f) (hg:w.grownBy w' (some m)) :
  Rdr s r m b w' { σ with names:=f } v:=by
 have hl:=h.at'.lt
 have hlm:=h.lt
 obtain ⟨fl,h1,h2⟩:=h.notes
 have hr:w'.heap[r]? = w.heap[r]?:=hg.block r hl (fun e=>by injection e with e;omega)
 exact ⟨h.at'.same hr hg.size,(World.cell?_of_block (a:=⟨r,2,none⟩) hr).trans h.kind,(World.frozen?_of_block (a:=⟨r,2,none⟩) hr).trans h.kfree,(World.cell?_of_block (a:=⟨r,3,none⟩) hr).trans h.mcell,(World.cell?_of_block (a:=⟨r,4,none⟩) hr).trans h.ncell,(World.frozen?_of_block (a:=⟨r,4,none⟩) hr).trans h.nfree,
  ⟨n+1,by show n+1+σ.notes.length+σ.rest.length+b≤s.length;omega,hm⟩,⟨fl,own_same h1 (fun j hj=>hg.block j (h1.lt j hj).2 (fun e=>by injection e with e;have:=(h1.lt j hj).1;omega)),h2⟩,h.lt⟩
theorem step_named {r m:Nat} {w w':World} {v:Value} (hg:w.grownBy w' (some m)):Step r m v v w w' :=
 ⟨hg.os,hg.tape,hg.output,hg.size,fun k hk _ h2 _=>hg.block k hk (fun e=>by injection e with e;omega),.inl rfl⟩
theorem died_put (w:World) (g:Nat) (k y:List UInt8) (vf:Value) (is:Bool) (e:Int):Died g w (put3 w g k y vf is e) where
 os:=by simp only [put3,World.setCell]
 tape:=by simp only [put3,World.setCell]
 output:=by simp only [put3,World.setCell]
 size:=Nat.le_of_eq (put3_size w g k y vf is e).symm
 block:=fun j _ h0 h1 h2=>put3_block w g k y vf is e j h0 h1 h2
structure EIn (s:List UInt8) (r m b:Nat) (w:World) (v0:Value) (σ:Ent.RS) (k y:List UInt8) (vf:Value) (is:Bool) (e:Int) (W:World) (v:Value):Prop where
 rdr:Rdr s r m b W σ v
 step:Step r m v0 v w W
 res:Res3 W w.heap.size k y vf is e
 away:∀j,w.heap.size≤j→j≤w.heap.size+2→v.ownBlock≠some j
 lt:r<w.heap.size
section
variable {s:List UInt8} {r m b:Nat} {w:World} {v0:Value} {σ:Ent.RS} {k y:List UInt8} {vf:Value} {is:Bool} {e:Int} {W:World} {v:Value}
theorem EIn.next (h:EIn s r m b w v0 σ k y vf is e W v) {b':Nat} {σ':Ent.RS} {W':World} {v':Value} (hR:Rdr s r m b' W' σ' v') (hS:Step r m v v' W W'):EIn s r m b' w v0 σ' k y vf is e W' v':=by
 have hl:=h.lt
 have hm:=h.rdr.lt
 have hz:=h.res.lt
 refine ⟨hR,h.step.trans hS,h.res.same (fun j h1 h2=>hS.block j (by omega) (by omega) (by omega) (h.away j h1 h2)) hS.size,fun j h1 h2=>?_,hl⟩
 rcases hS.own with e | ⟨g,e,hg⟩
 ·
  rw [e];exact h.away j h1 h2
 ·
  rw [e];intro e2;injection e2 with e2;omega
theorem EIn.moved (h:EIn s r m b w v0 σ k y vf is e W v) {W':World} {l:List UInt8} (hM:Moved r W W') (hA:At s r W' l) {b':Nat} (hb:l.length+b' ≤ σ.rest.length+b):EIn s r m b' w v0 (σ.at l) k y vf is e W' v :=
 h.next (h.rdr.moved hM hA hb) (hM.step m v)
theorem EIn.below (h:EIn s r m b w v0 σ k y vf is e W v) {W':World} (hb:Below W.heap.size W W'):EIn s r m b w v0 σ k y vf is e W' v:=h.next (h.rdr.below hb) (Step.below hb r m v)
theorem EIn.kinded (h:EIn s r m b w v0 σ k y vf is e W v) (k':List UInt8):EIn s r m b w v0 { σ with kind:=k' } k y vf is e (W.setCell ⟨r,2,none⟩ (.string ⟨k'.toArray⟩)) v:=h.next (h.rdr.kinded k') (step_set r m v W 2 _)
theorem EIn.mono (h:EIn s r m b w v0 σ k y vf is e W v) {b':Nat} (hb:b' ≤ b):EIn s r m b' w v0 σ k y vf is e W v:=⟨h.rdr.mono hb,h.step,h.res,h.away,h.lt⟩
theorem EIn.own_far (h:EIn s r m b w v0 σ k y vf is e W v) {j:Nat} (hj:v.ownBlock=some j):j<w.heap.size∨w.heap.size+2<j:=by
 by_cases h1:j<w.heap.size
 ·
  exact .inl h1
 ·
  by_cases h2:j≤w.heap.size+2
  ·
   exact absurd hj (h.away j (by omega) h2)
  ·
   exact .inr (by omega)
theorem Rdr.died (h:EIn s r m b w v0 σ k y vf is e W v) {W':World} (hD:Died w.heap.size W W'):Rdr s r m b W' σ v:=by
 have hl:=h.lt
 have hm:=h.rdr.lt
 have hz:=h.res.lt
 obtain ⟨fl,h1,_⟩:=h.rdr.notes
 exact h.rdr.same (hD.block r (by omega) (by omega) (by omega) (by omega)) (hD.block m (by omega) (by omega) (by omega) (by omega)) (fun j hj=>by
  have h2:=(h1.lt j hj).2
  rcases h.own_far hj with h3 | h3
  ·
   exact hD.block j h2 (by omega) (by omega) (by omega)
  ·
   exact hD.block j h2 (by omega) (by omega) (by omega)) hD.size
theorem Step.died (h:EIn s r m b w v0 σ k y vf is e W v) {W':World} (hD:Died w.heap.size W W'):Step r m v0 v w W':=by
 have hz:=h.res.lt
 exact ⟨hD.os.trans h.step.os,hD.tape.trans h.step.tape,hD.output.trans h.step.output,Nat.le_trans h.step.size hD.size,fun j hj h1 h2 h3=>(hD.block j (by omega) (by omega) (by omega) (by omega)).trans (h.step.block j hj h1 h2 h3),h.step.own⟩
theorem EIn.wrote (h:EIn s r m b w v0 σ k y vf is e W v) {W':World} (hD:Died w.heap.size W W') {k' y':List UInt8} {vf':Value} {is':Bool} {e':Int} (hr:Res3 W' w.heap.size k' y' vf' is' e'):EIn s r m b w v0 σ k' y' vf' is' e' W' v :=
 ⟨Rdr.died h hD,Step.died h hD,hr,h.away,h.lt⟩
end
def EntryPost (s:List UInt8) (r m b:Nat) (w:World) (v0:Value) (o:Option (Option Ent.Ent) × Ent.RS) (e:Ending) (w':World):Prop :=
 ∃(vx v':Value),e = .returned (.tuple #[vx,.bool (match o.1 with | some (some _)=>true | _=>false),.int .i64 (match o.1 with | none=>Ent.err o.2.rest | _=>0)])∧Rdr s r m b w' o.2 v'∧Step r m v0 v' w w' ∧
  (
   match o.1 with
   | some (some x)=>∃vs:List Value,vx = .agg vs.toArray∧REnt (fun j=>w.heap.size≤j∧v'.ownBlock≠some j) w' x vs
   | _=>vx = .agg #[.string ⟨#[]⟩,.string ⟨#[]⟩,.slice none 0 0])
theorem entry_leaves {s:List UInt8} {r m b:Nat} {w:World} {v0:Value} {σ:Ent.RS} {k y:List UInt8} {vf:Value} {is:Bool} {e:Int} {W:World} {v:Value} (h:EIn s r m b w v0 σ k y vf is e W v) (tmps:Array Value)
  (h2:tmps[2]?.getD undef = .pointer (some ⟨w.heap.size,0,none⟩)) (h3:tmps[3]?.getD undef = .pointer (some ⟨w.heap.size+1,0,none⟩)) (h4:tmps[4]?.getD undef = .pointer (some ⟨w.heap.size+2,0,none⟩))
  (k' y':List UInt8) (vf':Value) (is':Bool) (e':Int) (o:Option (Option Ent.Ent) × Ent.RS)
  (hp:∀w',EIn s r m b w v0 σ k' y' vf' is' e' w' v→Below (put3 W w.heap.size k' y' vf' is' e').heap.size (put3 W w.heap.size k' y' vf' is' e') w' → EntryPost s r m b w v0 o (.returned (.tuple #[.agg #[.string ⟨k'.toArray⟩,.string ⟨y'.toArray⟩,vf'],.bool is',.int .i64 e'])) w') :
  Leaves Tryz.prog Tryz.f67 tmps (EntryPost s r m b w v0 o) (tail1 w.heap.size) .returning (put3 W w.heap.size k' y' vf' is' e'):=by
 have hr:=h.res.put k' y' vf' is' e'
 refine leaves_idle tmps _ w.heap.size k' y' vf' is' e' hr h2 h3 h4 _ (fun w' hb=>hp w' ((h.wrote (died_put W _ _ _ _ _ _) hr).below hb) hb)
theorem entry_dies {s:List UInt8} {r m b:Nat} {w:World} {v0:Value} {σ:Ent.RS} {k y:List UInt8} {vf:Value} {is:Bool} {e:Int} {W:World} {v:Value} (h:EIn s r m b w v0 σ k y vf is e W v) (tmps:Array Value)
  (h2:tmps[2]?.getD undef = .pointer (some ⟨w.heap.size,0,none⟩)) (h3:tmps[3]?.getD undef = .pointer (some ⟨w.heap.size+1,0,none⟩)) (h4:tmps[4]?.getD undef = .pointer (some ⟨w.heap.size+2,0,none⟩))
  (o:Option (Option Ent.Ent) × Ent.RS) (ho:o=(none,σ)) :
  Leaves Tryz.prog Tryz.f67 tmps (EntryPost s r m b w v0 o) (tail1 w.heap.size) (.panicking [{ v:=.iface 213 (.agg #[.int .i64 (Ent.err σ.rest)]),recovered:=false }]) W:=by
 refine leaves_dies tmps W w.heap.size k y vf is e _ h.res h2 h3 h4 _ (fun w' hD=>?_)
 subst ho
 exact ⟨_,v,rfl,Rdr.died h hD,Step.died h hD,rfl⟩
end Go.Proofs.YtgnfmopcialllaaGreatDoor
