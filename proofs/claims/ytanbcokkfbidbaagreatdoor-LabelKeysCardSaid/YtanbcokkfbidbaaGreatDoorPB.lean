/- Names that stand for texts: a map of the call's own. The whole reader of package entry in memory; its notes. The walks of package entry's reader: a note more. The walks of package entry's reader: a part of a value. -/
import Derived.Test.YtanbcokkfbidbaaGreatDoorMap
import Derived.Test.YtanbcokkfbidbaaGreatDoorPA
import Derived.Shelf.Strings.SlTrimAscii
set_option linter.unusedSimpArgs false
set_option linter.unusedVariables false
namespace Go.Proofs.YtanbcokkfbidbaaGreatDoor
section
open Go.RowKit
open Go.Maps (Keyed)
open Go.MapKept Go.WideElems

/-- how a 'stands' reads -/
def standR (v : Value) : Option (DataW Unit × List MemPlace) :=
  match v with
  | .agg a => match a.toList with
    | [.string s] => some (.lit (.string s.data.toList), [])
    | _ => none
  | _ => none
theorem standR_mk (t : List UInt8) : standR (.agg #[.string ⟨t.toArray⟩]) = some (.lit (.string t), []) := rfl
theorem standR_inv {v : Value} {t : List UInt8} {ps : List MemPlace} (h : standR v = some (.lit (.string t), ps)) : v = .agg #[.string ⟨t.toArray⟩] := by
  unfold standR at h
  split at h
  · rename_i a
    split at h
    · rename_i s hs
      injection h with h
      injection h with h1 h2
      injection h1 with h1
      injection h1 with h1
      subst h1
      have : a = #[.string s] := by rw [← Array.toArray_toList (xs := a), hs]
      rw [this]
    · cases h
  · cases h
def SMap (w : World) (b n : Nat) (f : List UInt8 → Option (List UInt8)) : Prop :=
  ∃ D : DataW Unit, w.ownsMap Tryz.prog 9 standR b n D ∧ ∀ s : List UInt8, Maps.has D (.string s) = (f s).isSome ∧ D.atKey (.string s) (.lit (.string [])) = .lit (.string ((f s).getD []))
theorem zero_stand (w : World) : (zeroValue 111).run Tryz.prog w = .ok (.agg #[.string ⟨#[]⟩]) w := by kernel_rfl
theorem SMap.made (w : World) : SMap (w.alloc (.map #[] 0)) w.heap.size 0 (fun _ => none) := ⟨.map [], World.ownsMap_made w _ _ _, fun _ => ⟨rfl, rfl⟩⟩
theorem SMap.lt {w : World} {b n : Nat} {f : List UInt8 → Option (List UInt8)} (h : SMap w b n f) : b < w.heap.size := let ⟨_, h, _⟩ := h; h.lt
theorem SMap.kept {w w' : World} {b n : Nat} {f : List UInt8 → Option (List UInt8)} (h : SMap w b n f) (hb : w'.heap[b]? = w.heap[b]?) : SMap w' b n f := by
  obtain ⟨D, ⟨es, clock, hb', F, hs, hD⟩, hf⟩ := h
  exact ⟨D, ⟨es, clock, hb.trans hb', F, hs, hD⟩, hf⟩
section
variable {w : World} {ops : Array Oper} {rest : List Oper} {o : Oper} {a : Act} {Q : Exit → Act → World → Prop}
theorem wpList_smap_look (hg : o.guard = none) (m x : Operand) (hop : o.op = Op.lookup 88 m x true) (b n : Nat) (f : List UInt8 → Option (List UInt8)) (hm : a.eval m = .map (some b)) (hown : SMap w b n f)
    (s : List UInt8) (hx : a.eval x = .string ⟨s.toArray⟩) (hs : s.length ≤ maxLen) (y : Option (List UInt8)) (hy : f s = y)
    (hK : wpList Tryz.prog ops Q rest (a.put o.dst (.tuple #[.agg #[.string ⟨(y.getD []).toArray⟩], .bool y.isSome])) w) :
    wpList Tryz.prog ops Q (o :: rest) a w := by
  subst hy
  obtain ⟨D, h1, h2⟩ := hown
  refine wpList_lookup_own_ok w hg m x 88 hop 9 111 skeyed Tryz.underlying88 standR (zero_stand w) (.lit (.string [])) [] rfl b n D hm h1 _ _ hx (skey s hs) ?_
  intro v ps hv
  rw [(h2 s).2] at hv
  rw [standR_inv hv, (h2 s).1]
  exact hK
theorem wpList_smap_store (hg : o.guard = none) (m x v : Operand) (hop : o.op = Op.mapUpdate 88 m x v) (b n : Nat) (f : List UInt8 → Option (List UInt8)) (hm : a.eval m = .map (some b)) (hown : SMap w b n f)
    (s t : List UInt8) (hx : a.eval x = .string ⟨s.toArray⟩) (hs : s.length ≤ maxLen) (hn : n < maxLen) (hv : a.eval v = .agg #[.string ⟨t.toArray⟩])
    (hK : ∀ w', SMap w' b (n + 1) (fun z => if z = s then some t else f z) → w.grownBy w' (some b) → wpList Tryz.prog ops Q rest (a.put o.dst undef) w') :
    wpList Tryz.prog ops Q (o :: rest) a w := by
  obtain ⟨D, h1, h2⟩ := hown
  refine wpList_mapUpdate_own w hg m x v 88 hop 9 111 skeyed Tryz.underlying88 _ b n D hm h1 hn _ _ _ hx hv (skey s hs) (.lit (.string t)) [] (standR_mk t) ?_
  intro w' h3 h4
  refine hK w' ⟨_, h3, fun z => ?_⟩ h4
  show Maps.has _ _ = (if z = s then some t else f z).isSome ∧ DataW.atKey _ _ _ = .lit (.string ((if z = s then some t else f z).getD []))
  by_cases hz : z = s
  · rw [if_pos hz, hz]
    exact ⟨Maps.has_put_same h1.isMap (skeylit s) _, Maps.atKey_put_same h1.isMap (skeylit s) _ _⟩
  · rw [if_neg hz, ← (h2 z).1, ← (h2 z).2]
    have hne : (Lit.string z) ≠ Lit.string s := by intro e; injection e with e; exact hz e
    exact ⟨Maps.has_put_other hne _, Maps.atKey_put_other hne _ _⟩
end
end
section
open Go.RowKit

def RNote (x : Int × List UInt8) (vs : List Value) : Prop := vs = [.int .i64 x.1, .string ⟨x.2.toArray⟩]
theorem RNote.size (x : Int × List UInt8) (vs : List Value) (h : RNote x vs) : vs.length = 2 := by rw [h]; rfl
/-- the reader: r its block, m its map's, v its notes; b: what is left to spend on notes and names -/
structure Rdr (s : List UInt8) (r m b : Nat) (w : World) (σ : Ent.RS) (v : Value) : Prop where
  at' : At s r w σ.rest
  kind : w.cell? ⟨r, 2, none⟩ = some (.string ⟨σ.kind.toArray⟩)
  kfree : w.frozen? ⟨r, 2, none⟩ = false
  mcell : w.cell? ⟨r, 3, none⟩ = some (.map (some m))
  ncell : w.cell? ⟨r, 4, none⟩ = some v
  nfree : w.frozen? ⟨r, 4, none⟩ = false
  names : ∃ n, n + σ.notes.length + σ.rest.length + b ≤ s.length ∧ SMap w m n σ.names
  notes : ∃ fl, w.ownsRow (r + 1) 69 2 v σ.notes.length fl ∧ RepRow RNote σ.notes fl
  lt : m < r
/-- what the reader's doing leaves as it was -/
structure Step (r m : Nat) (v v' : Value) (w w' : World) : Prop where
  os : w'.os = w.os
  tape : w'.tape = w.tape
  output : w'.output = w.output
  size : w.heap.size ≤ w'.heap.size
  block : ∀ k, k < w.heap.size → k ≠ r → k ≠ m → v.ownBlock ≠ some k → w'.heap[k]? = w.heap[k]?
  own : v'.ownBlock = v.ownBlock ∨ ∃ g, v'.ownBlock = some g ∧ w.heap.size ≤ g
theorem Step.refl (r m : Nat) (v : Value) (w : World) : Step r m v v w w := ⟨rfl, rfl, rfl, Nat.le_refl _, fun _ _ _ _ _ => rfl, .inl rfl⟩
theorem Step.trans {r m : Nat} {v v' v'' : Value} {w w' w'' : World} (h : Step r m v v' w w') (k : Step r m v' v'' w' w'') : Step r m v v'' w w'' := by
  refine ⟨k.os.trans h.os, k.tape.trans h.tape, k.output.trans h.output, Nat.le_trans h.size k.size, fun i hi h1 h2 h3 => ?_, ?_⟩
  · refine (k.block i (Nat.lt_of_lt_of_le hi h.size) h1 h2 ?_).trans (h.block i hi h1 h2 h3)
    rcases h.own with e | ⟨g, e, hg⟩
    · rw [e]; exact h3
    · rw [e]; intro e2; injection e2 with e2; omega
  · rcases k.own with e | ⟨g, e, hg⟩
    · rw [e]; exact h.own
    · exact .inr ⟨g, e, Nat.le_trans h.size hg⟩
theorem Moved.step {r : Nat} {w w' : World} (h : Moved r w w') (m : Nat) (v : Value) : Step r m v v w w' :=
  ⟨h.os, h.tape, h.output, Nat.le_of_eq h.size.symm, fun k _ hk _ _ => h.block k hk, .inl rfl⟩
theorem Step.below {w w' : World} (h : Below w.heap.size w w') (r m : Nat) (v : Value) : Step r m v v w w' :=
  ⟨h.os, h.tape, h.output, h.size, fun k hk _ _ _ => h.block k hk, .inl rfl⟩
theorem grown_of_moved {r : Nat} {w w' : World} (h : Moved r w w') : w.grownBy w' (some r) := ⟨h.os, h.tape, h.output, Nat.le_of_eq h.size.symm, fun k _ hk => h.block k (fun e => hk (by rw [e]))⟩
theorem own_ne {w : World} {r e size n : Nat} {v : Value} {xs : List Value} (h : w.ownsRow (r + 1) e size v n xs) : v.ownBlock = none ∨ v.ownBlock ≠ some r := by
  cases hv : v.ownBlock with
  | none => exact .inl rfl
  | some g => refine .inr (fun e => ?_); injection e with e; have := (h.lt g hv).1; omega
theorem Rdr.moved {s : List UInt8} {r m b : Nat} {w w' : World} {σ : Ent.RS} {v : Value} (h : Rdr s r m b w σ v) (hM : Moved r w w') {l : List UInt8} (hA : At s r w' l) {b' : Nat} (hb : l.length + b' ≤ σ.rest.length + b) :
    Rdr s r m b' w' (σ.at l) v := by
  obtain ⟨n, h1, h2⟩ := h.names
  obtain ⟨fl, h3, h4⟩ := h.notes
  refine ⟨hA, (hM.cell 2 (by decide)).trans h.kind, (hM.frozen 2).trans h.kfree, (hM.cell 3 (by decide)).trans h.mcell, (hM.cell 4 (by decide)).trans h.ncell, (hM.frozen 4).trans h.nfree, ⟨n, ?_, ?_⟩, ⟨fl, ?_, h4⟩, h.lt⟩
  · show n + σ.notes.length + l.length + b' ≤ s.length
    omega
  · exact h2.kept (hM.block m (Nat.ne_of_lt h.lt))
  · exact h3.kept (grown_of_moved hM) (own_ne h3)
theorem At.below {s : List UInt8} {r : Nat} {w w' : World} {l : List UInt8} (h : At s r w l) (hb : Below w.heap.size w w') : At s r w' l :=
  ⟨(hb.cell (p := ⟨r, 0, none⟩) h.lt).trans h.text, (let ⟨k, h1, h2, h3⟩ := h.place; ⟨k, h1, h2, (hb.cell (p := ⟨r, 1, none⟩) h.lt).trans h3⟩), (hb.frozen (p := ⟨r, 1, none⟩) h.lt).trans h.free, Nat.lt_of_lt_of_le h.lt hb.size⟩
theorem Rdr.below {s : List UInt8} {r m b : Nat} {w w' : World} {σ : Ent.RS} {v : Value} (h : Rdr s r m b w σ v) (hb : Below w.heap.size w w') : Rdr s r m b w' σ v := by
  obtain ⟨n, h1, h2⟩ := h.names
  obtain ⟨fl, h3, h4⟩ := h.notes
  have hlt := h.at'.lt
  exact ⟨h.at'.below hb, (hb.cell (p := ⟨r, 2, none⟩) hlt).trans h.kind, (hb.frozen (p := ⟨r, 2, none⟩) hlt).trans h.kfree, (hb.cell (p := ⟨r, 3, none⟩) hlt).trans h.mcell, (hb.cell (p := ⟨r, 4, none⟩) hlt).trans h.ncell, (hb.frozen (p := ⟨r, 4, none⟩) hlt).trans h.nfree,
    ⟨n, h1, h2.kept (hb.block m h2.lt)⟩, ⟨fl, own_below h3 hb, h4⟩, h.lt⟩
theorem Rdr.mono {s : List UInt8} {r m b b' : Nat} {w : World} {σ : Ent.RS} {v : Value} (h : Rdr s r m b w σ v) (hb : b' ≤ b) : Rdr s r m b' w σ v :=
  ⟨h.at', h.kind, h.kfree, h.mcell, h.ncell, h.nfree, let ⟨n, h1, h2⟩ := h.names; ⟨n, by omega, h2⟩, h.notes, h.lt⟩
end
section
open Go.RowKit

theorem note_info : (Tryz.prog.info? 69).map (fun i => (i.zero, i.size, i.bytes)) = some (some (.agg #[.int .i64 0, .string ⟨#[]⟩]), 2, 24) := by kernel_rfl
theorem info_parts {P : Program} {e : TypeId} {z : Value} {n b : Nat} (h : (P.info? e).map (fun i => (i.zero, i.size, i.bytes)) = some (some z, n, b)) : ∃ i, P.info? e = some i ∧ i.zero = some z ∧ i.size = n ∧ i.bytes = b := by
  cases hi : P.info? e with
  | none => rw [hi] at h; cases h
  | some i => rw [hi] at h; injection h with h; injection h with h1 h2; injection h2 with h2 h3; exact ⟨i, rfl, h1, h2, h3⟩

theorem grown_cell {w w' : World} {row : Option Nat} {r : Nat} (hg : w.grownBy w' row) (hr : r < w.heap.size) (hne : row ≠ some r) (i : Nat) : w'.cell? ⟨r, i, none⟩ = w.cell? ⟨r, i, none⟩ :=
  World.cell?_of_block (hg.block r hr (fun e => hne e.symm))
theorem grown_frozen {w w' : World} {row : Option Nat} {r : Nat} (hg : w.grownBy w' row) (hr : r < w.heap.size) (hne : row ≠ some r) (i : Nat) : w'.frozen? ⟨r, i, none⟩ = w.frozen? ⟨r, i, none⟩ :=
  World.frozen?_of_block (hg.block r hr (fun e => hne e.symm))

theorem grown_set (w : World) (r i : Nat) (v : Value) : w.grownBy (w.setCell ⟨r, i, none⟩ v) (some r) :=
  ⟨rfl, rfl, rfl, by simp [World.setCell], fun k _ hk => Below.heap_setCell _ _ _ _ (fun e => hk (by rw [e]))⟩
theorem Rdr.noted {s : List UInt8} {r m b : Nat} {w w2 : World} {σ : Ent.RS} {v v2 : Value} {e : Int} {x : List UInt8} (h : Rdr s r m (b + 1) w σ v) (hne : v.ownBlock ≠ some r) (hnm : v.ownBlock ≠ some m) (hg : w.grownBy w2 v.ownBlock)
    {fl : List Value} (hrep : RepRow RNote σ.notes fl) (hown : w2.ownsRow (r + 1) 69 2 v2 (σ.notes.length + 1) (fl ++ [.int .i64 e, .string ⟨x.toArray⟩])) :
    Rdr s r m b (w2.setCell ⟨r, 4, none⟩ v2) (σ.note e x) v2 := by
  have hlt := h.at'.lt
  have hc := fun i => grown_cell hg hlt hne i
  have hf := fun i => grown_frozen hg hlt hne i
  have hs : ∀ i, i ≠ 4 → (w2.setCell ⟨r, 4, none⟩ v2).cell? ⟨r, i, none⟩ = w.cell? ⟨r, i, none⟩ := fun i hi => (World.cell?_setCell_other _ _ _ _ (fun e => hi (by cases e; rfl))).trans (hc i)
  have hz : ∀ i, (w2.setCell ⟨r, 4, none⟩ v2).frozen? ⟨r, i, none⟩ = w.frozen? ⟨r, i, none⟩ := fun i => (by simp : _ = w2.frozen? ⟨r, i, none⟩).trans (hf i)
  obtain ⟨n, h1, h2⟩ := h.names
  obtain ⟨k, h3, h4, h5⟩ := h.at'.place
  refine ⟨⟨(hs 0 (by decide)).trans h.at'.text, ⟨k, h3, h4, (hs 1 (by decide)).trans h5⟩, (hz 1).trans h.at'.free, by simpa using Nat.lt_of_lt_of_le hlt hg.size⟩, (hs 2 (by decide)).trans h.kind, (hz 2).trans h.kfree, (hs 3 (by decide)).trans h.mcell, ?_, (hz 4).trans h.nfree, ⟨n, ?_, ?_⟩, ?_, h.lt⟩
  · exact World.cell?_setCell_same _ _ _ ((hc 4).trans h.ncell)
  · show n + (σ.notes ++ [(e, x)]).length + σ.rest.length + b ≤ s.length
    simp
    omega
  · exact h2.kept ((Below.heap_setCell _ _ _ _ (Nat.ne_of_lt h.lt)).trans (hg.block m h2.lt (fun e => hnm e.symm)))
  · refine ⟨_, ?_, RepRow.snoc (x := (e, x)) rfl hrep⟩
    have : (σ.note e x).notes.length = σ.notes.length + 1 := by simp [Ent.RS.note]
    rw [this]
    exact hown.kept (grown_set w2 r 4 v2) (own_ne hown)
theorem step_noted {r m : Nat} {w w2 : World} {v v2 : Value} (hg : w.grownBy w2 v.ownBlock) (hat : v2.ownBlock = v.ownBlock ∨ v2.ownBlock = some (w.heap.size + 1)) :
    Step r m v v2 w (w2.setCell ⟨r, 4, none⟩ v2) :=
  ⟨hg.os, hg.tape, hg.output, by simpa using hg.size, fun k hk h1 _ h3 => (Below.heap_setCell _ _ _ _ h1).trans (hg.block k hk (fun e => h3 e.symm)), hat.imp id (fun e => ⟨_, e, by omega⟩)⟩

set_option maxRecDepth 100000 in
set_option maxHeartbeats 800000 in
theorem reader_note (s : List UInt8) (r m b : Nat) (σ : Ent.RS) (v : Value) (w : World) (e : Int) (x : List UInt8) (hs : s.length ≤ 1000000000) (hR : Rdr s r m (b + 1) w σ v) :
    Calls Tryz.prog 42 #[.pointer (some ⟨r, 0, none⟩), .int .i64 e, .string ⟨x.toArray⟩] w fun e' w' => e' = .returned (.tuple #[]) ∧ ∃ v', Rdr s r m b w' (σ.note e x) v' ∧ Step r m v v' w w' := by
  have e4 := hR.ncell
  have f4 := hR.nfree
  have hlt := hR.at'.lt
  obtain ⟨fl, hown, hrep⟩ := hR.notes
  obtain ⟨n, hn, hmap⟩ := hR.names
  obtain ⟨i0, hi, hz0, hz1, hz2⟩ := info_parts note_info
  have hne : v.ownBlock ≠ some r := by rcases own_ne hown with e | e
                                       · rw [e]; simp
                                       · exact e
  have hnm : v.ownBlock ≠ some m := fun e => by have := (hown.lt m e).1; have := hR.lt; omega
  have Hne := Lib.hid hne; have Hnm := Lib.hid hnm; have Hrep := Lib.hid hrep; clear hne hnm
  have Hown := Lib.hid hown; have HR := Lib.hid hR; have Hi := Lib.hid hi; have Hz0 := Lib.hid hz0; have Hz1 := Lib.hid hz1; have Hz2 := Lib.hid hz2
  have hcnt : σ.notes.length ≤ 1000000000 := by omega
  have hlt1 : r + 1 ≤ w.heap.size := hlt
  clear hown hR hi hz0 hz1 hz2 hrep hmap hn
  go_enter Tryz.func42, Tryz.ntmps42
  go_wp2_with (at_builtin; go_loud (refine wpList_append1 rfl (.tmp 10) (.tmp 14) 38 rfl (r + 1) 69 i0 (.agg #[.int .i64 0, .string ⟨#[]⟩]) 2 24 Tryz.underlying38 Hi.out Hz0.out Hz1.out Hz2.out (by rfl) (by decide) _ _ _ Hown.out rfl [.int .i64 e, .string ⟨x.toArray⟩] rfl (by simp) rfl (by simp [Value.oneCell']) (by unfold maxLen; omega) (by omega) hlt1 ?_); intro v2 w2 own2 g2 at2; obtain ⟨p2, cap2, rfl, hp2, hq2⟩ := own2.form (Nat.succ_pos _); have e24 := (grown_cell g2 hlt Hne.out 4).trans e4; have f24 := (grown_frozen g2 hlt Hne.out 4).trans f4; have Own2 := Lib.hid own2; have At2 := Lib.hid at2; have G2 := Lib.hid g2; clear own2 at2 g2)
  refine bodyPost_end (results_none rfl _ _ _) rfl ?_
  exact ⟨rfl, _, HR.out.noted Hne.out Hnm.out G2.out Hrep.out Own2.out, step_noted G2.out At2.out⟩
end
section
open Go.RowKit

def digs : List UInt8 := [48, 49, 50, 51, 52, 53, 54, 55, 56, 57]
theorem digs_digit (c : UInt8) : digs.contains c = Ent.digit c := by
  have := byte_all (fun c => digs.contains c == Ent.digit c) (by decide +kernel) c
  simpa using this
theorem mem_takeWhile {α : Type} (p : α → Bool) : ∀ (l : List α) (x : α), x ∈ l.takeWhile p → p x = true
  | [], _, h => by simp at h
  | y :: l, x, h => by
    rw [List.takeWhile_cons] at h
    split at h
    · rcases List.mem_cons.1 h with rfl | h
      · assumption
      · exact mem_takeWhile p l x h
    · simp at h
theorem dropWhile_nil {α : Type} (p : α → Bool) : ∀ l : List α, l.dropWhile p = [] ↔ ∀ x ∈ l, p x = true
  | [] => by simp
  | y :: l => by
    rw [List.dropWhile_cons]
    cases hy : p y
    · simp [hy]
    · simpa [hy] using dropWhile_nil p l
theorem trim_nil (l cs : List UInt8) : (Lib.trimS l cs = []) ↔ l.all cs.contains = true := by
  unfold Lib.trimS Lib.trimLeftS Lib.trimRightS
  rw [dropWhile_nil, List.all_eq_true]
  have h1 := List.takeWhile_append_dropWhile (p := fun x => cs.contains x) (l := l.reverse)
  constructor
  · intro h x hx
    have h2 : x ∈ l.reverse := List.mem_reverse.2 hx
    rw [← h1] at h2
    rcases List.mem_append.1 h2 with h2 | h2
    · exact mem_takeWhile _ _ _ h2
    · exact h x (List.mem_reverse.2 h2)
  · intro h x hx
    have h2 : x ∈ l.reverse := by rw [← h1]; exact List.mem_append_right _ (List.mem_reverse.1 hx)
    exact h x (List.mem_reverse.1 h2)
theorem trim_digits (l : List UInt8) (w : World) (hl : l.length ≤ 1000000000) :
    Calls Tryz.prog 104 #[.string ⟨l.toArray⟩, .string ⟨#[48, 49, 50, 51, 52, 53, 54, 55, 56, 57]⟩] w fun e w' => e = .returned (.string ⟨(Lib.trimS l digs).toArray⟩) ∧ Below w.heap.size w w' :=
  Any.strings_Trim_laid Tryz.lays160 (by kernel_rfl) ⟨l.toArray⟩ ⟨digs.toArray⟩ w (by rw [size_mk]; omega) (by decide) (ascii_of_all (by decide))
theorem reader_isc (s : List UInt8) (r : Nat) (l : List UInt8) (c : UInt8) (n : Int) (hn : (c.toNat : Int) = n) (w : World) (hs : s.length ≤ maxLen) (h0 : c.toNat ≠ 0) (hA : At s r w l) :
    Calls Tryz.prog 65 #[.pointer (some ⟨r, 0, none⟩), .int .u8 n] w fun e w' => e = .returned (.bool (Ent.isB c l)) ∧ At s r w' (Ent.isL c l) ∧ Moved r w w' := by
  subst hn; exact reader_is s r l c w hs h0 hA
theorem reader_mustc (s : List UInt8) (r : Nat) (l : List UInt8) (c : UInt8) (n : Int) (hn : (c.toNat : Int) = n) (w : World) (hs : s.length ≤ maxLen) (h0 : c.toNat ≠ 0) (hA : At s r w l) :
    Calls Tryz.prog 63 #[.pointer (some ⟨r, 0, none⟩), .int .u8 n] w fun e w' => e = (if Ent.isB c l then .returned (.tuple #[]) else wrongP (Ent.isL c l)) ∧ At s r w' (Ent.isL c l) ∧ Moved r w w' := by
  subst hn; exact reader_must s r l c w hs h0 hA

/-- the reader behind a call: what it hands back, and how it stands -/
abbrev After (s : List UInt8) (r m b : Nat) (v : Value) (w : World) (o : Option (List UInt8)) (σ : Ent.RS) (e : Ending) (w' : World) : Prop :=
  said (o, σ.rest) e ∧ ∃ v', Rdr s r m b w' σ v' ∧ Step r m v v' w w'

theorem Rdr.away {s : List UInt8} {r m b : Nat} {w : World} {σ : Ent.RS} {v : Value} (h : Rdr s r m b w σ v) {g : Nat} (hg : w.heap.size ≤ g) : g ≠ r ∧ g ≠ m ∧ v.ownBlock ≠ some g := by
  have h1 := h.at'.lt
  obtain ⟨n, _, h2⟩ := h.names
  have h3 := h2.lt
  obtain ⟨fl, h4, _⟩ := h.notes
  refine ⟨by omega, by omega, fun e => ?_⟩
  have := (h4.lt g e).2
  omega
/-- what was made behind the reader's back stays -/
theorem Step.kept {s : List UInt8} {r m b : Nat} {w W w' : World} {σ : Ent.RS} {v v' : Value} (h : Rdr s r m b w σ v) (hS : Step r m v v' W w') {g : Nat} (hg : w.heap.size ≤ g) (hW : g < W.heap.size) (i : Nat) : w'.cell? ⟨g, i, none⟩ = W.cell? ⟨g, i, none⟩ := by
  obtain ⟨h1, h2, h3⟩ := h.away hg
  exact World.cell?_of_block (hS.block g hW h1 h2 h3)
theorem new_cell (w : World) (u : Value) (t : TypeId) : (w.alloc (.cells #[u] t)).cell? ⟨w.heap.size, 0, none⟩ = some u := by
  rw [cell_of_row _ _ _ _ _ _ (heap_alloc_new w _)]
  rfl
theorem below_new (w : World) (o : Obj) : Below w.heap.size w (w.alloc o) := (Below.refl w.heap.size w).alloc (Nat.le_refl _) o

set_option maxRecDepth 100000 in
set_option maxHeartbeats 1600000 in
theorem reader_part (s : List UInt8) (r m b : Nat) (σ : Ent.RS) (v : Value) (w : World) (hs : s.length ≤ 1000000000) (hR : Rdr s r m b w σ v) :
    Calls Tryz.prog 90 #[.pointer (some ⟨r, 0, none⟩)] w fun e w' => After s r m b v w (Ent.part σ).1 (Ent.part σ).2 e w' := by
  have hsm : s.length ≤ maxLen := by unfold maxLen; omega
  have H34 := Lib.hid (reader_isc s r σ.rest 34 34 rfl w hsm (by decide) hR.at')
  obtain ⟨o, ho⟩ : ∃ o, Ent.part σ = o := ⟨_, rfl⟩
  rw [ho]
  unfold Ent.part at ho
  have HR := Lib.hid hR; clear hR
  cases h34 : Ent.isB 34 σ.rest
  · rw [h34] at ho H34
    rw [if_neg (by simp)] at ho
    have hl34 : Ent.isL 34 σ.rest = Ent.bl σ.rest := Ent.isL_no _ _ h34
    rw [hl34] at H34
    have h123 : ∀ w', At s r w' (Ent.bl σ.rest) → Calls Tryz.prog 65 #[.pointer (some ⟨r, 0, none⟩), .int .u8 123] w' fun e w'' => e = .returned (.bool (Ent.isB 123 σ.rest)) ∧ At s r w'' (Ent.isL 123 σ.rest) ∧ Moved r w' w'' := by
      intro w' hA
      have h := reader_isc s r _ 123 123 rfl w' hsm (by decide) hA
      rw [Ent.isB_bl, Ent.isL_bl] at h
      exact h
    clear hl34 h34
    cases hb : Ent.isB 123 σ.rest
    · rw [hb] at ho h123
      rw [if_neg (by simp)] at ho
      rw [Ent.isL_no _ _ hb] at h123
      have H123 := Lib.hid h123; clear h123
      have hmk : ∀ w', At s r w' (Ent.bl σ.rest) → Calls Tryz.prog 62 #[.pointer (some ⟨r, 0, none⟩)] w' fun e w'' => said (Ent.mark σ.rest) e ∧ At s r w'' (Ent.mark σ.rest).2 ∧ Moved r w' w'' := by
        intro w' hA
        have h := reader_mark s r _ w' hsm hA
        rw [Ent.mark_bl] at h
        exact h
      have Hmk := Lib.hid hmk; clear hmk hb
      cases hq : (Ent.mark σ.rest).1 with
      | none =>
        have Hl := Lib.hid (Ent.mark_len σ.rest)
        rw [hq] at ho
        dsimp only at ho
        have Ho := Lib.hid ho.symm; have Hq := Lib.hid hq; clear hq ho
        go_enter Tryz.func90, Tryz.ntmps90
        go_wp2_with (first
          | (go_at_call 65; with_reducible refine H34.out.mono ?_; rintro e w2 ⟨rfl, hA2, hM2⟩)
          | (go_at_call 65; with_reducible refine (H123.out _ hA2).mono ?_; rintro e w3 ⟨rfl, hA3, hM3⟩)
          | (go_at_call 62; refine (Hmk.out _ hA3).mono ?_; rintro e w4 ⟨he4, hA4, hM4⟩; simp only [said, Hq.out] at he4; subst he4))
        refine ⟨rfl, ?_⟩
        rw [Ho.out]
        exact ⟨rfl, v, HR.out.moved ((hM2.trans hM3).trans hM4) hA4 (by have := Hl.out; omega), ((hM2.trans hM3).trans hM4).step m v⟩
      | some t =>
        obtain ⟨hne, hlt⟩ := Ent.mark_lt σ.rest t hq
        rw [hq] at ho
        dsimp only at ho
        have htl0 : t.length ≤ 1000000000 := by
          have h1 := congrArg List.length (List.takeWhile_append_dropWhile (p := Ent.sign) (l := Ent.bl σ.rest))
          have h2 : t = (Ent.bl σ.rest).takeWhile Ent.sign := by
            unfold Ent.mark at hq
            dsimp only at hq
            split at hq
            · cases hq
            · cases hq; rfl
          rw [List.length_append, ← h2] at h1
          have h3 := Ent.bl_len σ.rest
          obtain ⟨n, h4, _⟩ := HR.out.names
          omega
        have htl : t.length ≤ maxLen := by unfold maxLen; omega
        have hbud : (Ent.mark σ.rest).2.length + (b + 1) ≤ σ.rest.length + b := by omega
        obtain ⟨u, hu⟩ : ∃ u, Ent.small t = u := ⟨_, rfl⟩
        have hul : u.length ≤ 1000000000 := by rw [← hu]; unfold Ent.small; rw [List.length_map]; exact htl0
        rw [hu] at ho
        obtain ⟨z, hz⟩ : ∃ z, Lib.trimS u digs = z := ⟨_, rfl⟩
        have hzd : z = [] ↔ u.all Ent.digit = true := by
          rw [← hz, trim_nil]
          have : u.all digs.contains = u.all Ent.digit := by congr 1; funext c; exact digs_digit c
          rw [this]
        have Hq := Lib.hid hq; have Hu := Lib.hid hu; have Hz := Lib.hid hz; clear hq hu hz
        cases hdg : u.all Ent.digit
        · have hz1 : z.isEmpty = false := by
            cases hze : z with
            | nil => rw [hzd.1 hze] at hdg; cases hdg
            | cons c l => rfl
          rw [hdg, if_neg (by simp)] at ho
          clear hzd hdg
          cases hnm : σ.names u with
          | none =>
            rw [hnm] at ho
            dsimp only at ho
            have Ho := Lib.hid ho.symm; have Hnm := Lib.hid hnm; clear ho hnm
            go_enter Tryz.func90, Tryz.ntmps90
            go_wp2_with (first
          | (go_at_call 65; with_reducible refine H34.out.mono ?_; rintro e w2 ⟨rfl, hA2, hM2⟩)
          | (go_at_call 65; with_reducible refine (H123.out _ hA2).mono ?_; rintro e w3 ⟨rfl, hA3, hM3⟩)
          | (go_at_call 62; refine (Hmk.out _ hA3).mono ?_; rintro e w4 ⟨he4, hA4, hM4⟩; simp only [said, Hq.out] at he4; subst he4)
          | (go_at_call 61; refine (entry_small t _ htl).mono ?_; rintro e w5 ⟨rfl, hb5⟩; have HR5 := Lib.hid ((HR.out.moved ((hM2.trans hM3).trans hM4) hA4 hbud).below hb5); have HS5 := Lib.hid ((((hM2.trans hM3).trans hM4).step m v).trans (Step.below hb5 r m v)); clear hA2 hM2 hA3 hM3 hA4 hM4 hb5; rw [Hu.out])
          | (go_at_call 104; refine (trim_digits u _ hul).mono ?_; rintro e w6 ⟨rfl, hb6⟩; have HR6 := Lib.hid (HR5.out.below hb6); have HS6 := Lib.hid (HS5.out.trans (Step.below hb6 r m v)); have e3 := HR6.out.mcell; obtain ⟨n6, hn6, hm6⟩ := HR6.out.names; have HM6 := Lib.hid hm6; clear HR5 HS5 hb6 hn6 hm6; rw [Hz.out])
              | (at_lookup; go_loud (refine wpList_smap_look rfl (.tmp 27) (.tmp 28) rfl m _ _ rfl HM6.out u rfl (by unfold maxLen; omega) none Hnm.out ?_))
              | (go_at_call 42; refine (reader_note s r m b _ v _ 4 u hs (HR6.out.below (below_new w6 _))).mono ?_; rintro e w7 ⟨rfl, v7, hR7, hS7⟩; have ex := (Step.kept HR6.out hS7 (Nat.le_refl _) (lt_alloc w6 _) 0).trans (new_cell w6 _ _)))
            go_ret
            rw [Ho.out]
            exact ⟨rfl, v7, hR7, HS6.out.trans ((Step.below (below_new w6 _) r m v).trans hS7)⟩
          | some y =>
            rw [hnm] at ho
            dsimp only at ho
            have Ho := Lib.hid ho.symm; have Hnm := Lib.hid hnm; clear ho hnm
            go_enter Tryz.func90, Tryz.ntmps90
            go_wp2_with (first
          | (go_at_call 65; with_reducible refine H34.out.mono ?_; rintro e w2 ⟨rfl, hA2, hM2⟩)
          | (go_at_call 65; with_reducible refine (H123.out _ hA2).mono ?_; rintro e w3 ⟨rfl, hA3, hM3⟩)
          | (go_at_call 62; refine (Hmk.out _ hA3).mono ?_; rintro e w4 ⟨he4, hA4, hM4⟩; simp only [said, Hq.out] at he4; subst he4)
          | (go_at_call 61; refine (entry_small t _ htl).mono ?_; rintro e w5 ⟨rfl, hb5⟩; have HR5 := Lib.hid ((HR.out.moved ((hM2.trans hM3).trans hM4) hA4 hbud).below hb5); have HS5 := Lib.hid ((((hM2.trans hM3).trans hM4).step m v).trans (Step.below hb5 r m v)); clear hA2 hM2 hA3 hM3 hA4 hM4 hb5; rw [Hu.out])
          | (go_at_call 104; refine (trim_digits u _ hul).mono ?_; rintro e w6 ⟨rfl, hb6⟩; have HR6 := Lib.hid (HR5.out.below hb6); have HS6 := Lib.hid (HS5.out.trans (Step.below hb6 r m v)); have e3 := HR6.out.mcell; obtain ⟨n6, hn6, hm6⟩ := HR6.out.names; have HM6 := Lib.hid hm6; clear HR5 HS5 hb6 hn6 hm6; rw [Hz.out])
              | (at_lookup; go_loud (refine wpList_smap_look rfl (.tmp 27) (.tmp 28) rfl m _ _ rfl HM6.out u rfl (by unfold maxLen; omega) (some y) Hnm.out ?_)))
            go_ret
            rw [Ho.out]
            exact ⟨rfl, v, (HR6.out.mono (by omega)).below (below_new w6 _), HS6.out.trans (Step.below (below_new w6 _) r m v)⟩
        · have hz1 : z = [] := hzd.2 hdg
          subst hz1
          rw [hdg, if_pos rfl] at ho
          have Ho := Lib.hid ho.symm
          clear hzd hdg ho
          go_enter Tryz.func90, Tryz.ntmps90
          go_wp2_with (first
          | (go_at_call 65; with_reducible refine H34.out.mono ?_; rintro e w2 ⟨rfl, hA2, hM2⟩)
          | (go_at_call 65; with_reducible refine (H123.out _ hA2).mono ?_; rintro e w3 ⟨rfl, hA3, hM3⟩)
          | (go_at_call 62; refine (Hmk.out _ hA3).mono ?_; rintro e w4 ⟨he4, hA4, hM4⟩; simp only [said, Hq.out] at he4; subst he4)
          | (go_at_call 61; refine (entry_small t _ htl).mono ?_; rintro e w5 ⟨rfl, hb5⟩; have HR5 := Lib.hid ((HR.out.moved ((hM2.trans hM3).trans hM4) hA4 hbud).below hb5); have HS5 := Lib.hid ((((hM2.trans hM3).trans hM4).step m v).trans (Step.below hb5 r m v)); clear hA2 hM2 hA3 hM3 hA4 hM4 hb5; rw [Hu.out])
          | (go_at_call 104; refine (trim_digits u _ hul).mono ?_; rintro e w6 ⟨rfl, hb6⟩; have HR6 := Lib.hid (HR5.out.below hb6); have HS6 := Lib.hid (HS5.out.trans (Step.below hb6 r m v)); have e3 := HR6.out.mcell; obtain ⟨n6, hn6, hm6⟩ := HR6.out.names; have HM6 := Lib.hid hm6; clear HR5 HS5 hb6 hn6 hm6; rw [Hz.out]))
          go_ret
          rw [Ho.out]
          exact ⟨rfl, v, HR6.out.mono (by omega), HS6.out⟩
    · rw [hb] at ho h123
      rw [if_pos rfl] at ho
      have Ho := Lib.hid ho.symm; have Hb := Lib.hid hb; have H123 := Lib.hid h123; clear ho hb h123
      have Hl1 := Lib.hid (Ent.isL_lt 123 σ.rest Hb.out)
      have Hl2 := Lib.hid (Ent.brace_len (Ent.isL 123 σ.rest) 1 [])
      cases hq : (Ent.braced (Ent.isL 123 σ.rest)).1 with
      | none =>
        have Hq := Lib.hid hq; clear hq
        go_enter Tryz.func90, Tryz.ntmps90
        go_wp2_with (first
          | (go_at_call 65; with_reducible refine H34.out.mono ?_; rintro e w2 ⟨rfl, hA2, hM2⟩)
          | (go_at_call 65; with_reducible refine (H123.out _ hA2).mono ?_; rintro e w3 ⟨rfl, hA3, hM3⟩)
          | (go_at_call 103; refine (reader_braced _ _ _ _ hs hA3).mono ?_; rintro e w4 ⟨he4, hA4, hM4⟩; simp only [said, Hq.out] at he4; subst he4))
        refine ⟨rfl, ?_⟩
        rw [Ho.out, Hq.out]
        exact ⟨rfl, v, HR.out.moved ((hM2.trans hM3).trans hM4) hA4 (by have := Hl1.out; have := Hl2.out; unfold Ent.braced; omega), ((hM2.trans hM3).trans hM4).step m v⟩
      | some t =>
        have Hq := Lib.hid hq; clear hq
        go_enter Tryz.func90, Tryz.ntmps90
        go_wp2_with (first
          | (go_at_call 65; with_reducible refine H34.out.mono ?_; rintro e w2 ⟨rfl, hA2, hM2⟩)
          | (go_at_call 65; with_reducible refine (H123.out _ hA2).mono ?_; rintro e w3 ⟨rfl, hA3, hM3⟩)
          | (go_at_call 103; refine (reader_braced _ _ _ _ hs hA3).mono ?_; rintro e w4 ⟨he4, hA4, hM4⟩; simp only [said, Hq.out] at he4; subst he4))
        go_ret
        rw [Ho.out, Hq.out]
        exact ⟨rfl, v, HR.out.moved ((hM2.trans hM3).trans hM4) hA4 (by have := Hl1.out; have := Hl2.out; unfold Ent.braced; omega), ((hM2.trans hM3).trans hM4).step m v⟩
  · rw [h34] at ho H34
    rw [if_pos rfl] at ho
    have Ho := Lib.hid ho.symm; have Hb34 := Lib.hid h34; clear ho h34
    have hl1 := Ent.isL_lt 34 σ.rest Hb34.out
    have hl2 := Ent.quoted_len (Ent.isL 34 σ.rest)
    have Hl1 := Lib.hid hl1; have Hl2 := Lib.hid hl2; clear hl1 hl2
    cases hq : (Ent.quoted (Ent.isL 34 σ.rest)).1 with
    | none =>
      have Hq := Lib.hid hq; clear hq
      go_enter Tryz.func90, Tryz.ntmps90
      go_wp2_with (first
        | (go_at_call 65; refine H34.out.mono ?_; rintro e w2 ⟨rfl, hA2, hM2⟩)
        | (go_at_call 102; refine (reader_quoted _ _ _ _ hsm hA2).mono ?_; rintro e w3 ⟨he3, hA3, hM3⟩; simp only [said, Hq.out] at he3; subst he3))
      refine ⟨rfl, ?_⟩
      rw [Ho.out, Hq.out]
      exact ⟨rfl, v, HR.out.moved (hM2.trans hM3) hA3 (by have := Hl1.out; have := Hl2.out; omega), (hM2.trans hM3).step m v⟩
    | some t =>
      have Hq := Lib.hid hq; clear hq
      go_enter Tryz.func90, Tryz.ntmps90
      go_wp2_with (first
        | (go_at_call 65; refine H34.out.mono ?_; rintro e w2 ⟨rfl, hA2, hM2⟩)
        | (go_at_call 102; refine (reader_quoted _ _ _ _ hsm hA2).mono ?_; rintro e w3 ⟨he3, hA3, hM3⟩; simp only [said, Hq.out] at he3; subst he3))
      go_ret
      rw [Ho.out, Hq.out]
      exact ⟨rfl, v, HR.out.moved (hM2.trans hM3) hA3 (by have := Hl1.out; have := Hl2.out; omega), (hM2.trans hM3).step m v⟩
end
end Go.Proofs.YtanbcokkfbidbaaGreatDoor
