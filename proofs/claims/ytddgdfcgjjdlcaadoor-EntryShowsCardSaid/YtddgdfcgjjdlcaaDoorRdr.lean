/- The whole reader of package entry in memory; its notes. -/
import Derived.Test.YtddgdfcgjjdlcaaDoorSMap
namespace Go.Proofs.YtddgdfcgjjdlcaaDoor
open Go.RowKit

def RNote (x : Int × List UInt8) (vs : List Value) : Prop := vs = [.int .i64 x.1, .string ⟨x.2.toArray⟩]
theorem RNote.size (x : Int × List UInt8) (vs : List Value) (h : RNote x vs) : vs.length = 2 := by rw [h]; rfl
/-- the reader: r its block, m its map's, v its notes; b: what is left to spend on notes and names -/
structure Rdr (s : List UInt8) (r m b : Nat) (w : World) (σ : Ent.RS) (v : Value) : Prop where
  at' : At s r w σ.rest
  kind : w.cell? ⟨r, 2, none⟩ = some (.string ⟨σ.kind.toArray⟩)
  kfree : w.frozen? ⟨r, 2, none⟩ = false
  mcell : w.cell? ⟨r, 3, none⟩ = some (.map (some m))
  ncell : w.cell? ⟨r, 4, none⟩ = some v
  nfree : w.frozen? ⟨r, 4, none⟩ = false
  names : ∃ n, n + σ.notes.length + σ.rest.length + b ≤ s.length ∧ SMap w m n σ.names
  notes : ∃ fl, w.ownsRow (r + 1) 58 2 v σ.notes.length fl ∧ RepRow RNote σ.notes fl
  lt : m < r
/-- what the reader's doing leaves as it was -/
structure Step (r m : Nat) (v v' : Value) (w w' : World) : Prop where
  os : w'.os = w.os
  tape : w'.tape = w.tape
  output : w'.output = w.output
  size : w.heap.size ≤ w'.heap.size
  block : ∀ k, k < w.heap.size → k ≠ r → k ≠ m → v.ownBlock ≠ some k → w'.heap[k]? = w.heap[k]?
  own : v'.ownBlock = v.ownBlock ∨ ∃ g, v'.ownBlock = some g ∧ w.heap.size ≤ g
theorem Step.refl (r m : Nat) (v : Value) (w : World) : Step r m v v w w := ⟨rfl, rfl, rfl, Nat.le_refl _, fun _ _ _ _ _ => rfl, .inl rfl⟩
theorem Step.trans {r m : Nat} {v v' v'' : Value} {w w' w'' : World} (h : Step r m v v' w w') (k : Step r m v' v'' w' w'') : Step r m v v'' w w'' := by
  refine ⟨k.os.trans h.os, k.tape.trans h.tape, k.output.trans h.output, Nat.le_trans h.size k.size, fun i hi h1 h2 h3 => ?_, ?_⟩
  · refine (k.block i (Nat.lt_of_lt_of_le hi h.size) h1 h2 ?_).trans (h.block i hi h1 h2 h3)
    rcases h.own with e | ⟨g, e, hg⟩
    · rw [e]; exact h3
    · rw [e]; intro e2; injection e2 with e2; omega
  · rcases k.own with e | ⟨g, e, hg⟩
    · rw [e]; exact h.own
    · exact .inr ⟨g, e, Nat.le_trans h.size hg⟩
theorem Moved.step {r : Nat} {w w' : World} (h : Moved r w w') (m : Nat) (v : Value) : Step r m v v w w' :=
  ⟨h.os, h.tape, h.output, Nat.le_of_eq h.size.symm, fun k _ hk _ _ => h.block k hk, .inl rfl⟩
theorem Step.below {w w' : World} (h : Below w.heap.size w w') (r m : Nat) (v : Value) : Step r m v v w w' :=
  ⟨h.os, h.tape, h.output, h.size, fun k hk _ _ _ => h.block k hk, .inl rfl⟩
theorem grown_of_moved {r : Nat} {w w' : World} (h : Moved r w w') : w.grownBy w' (some r) := ⟨h.os, h.tape, h.output, Nat.le_of_eq h.size.symm, fun k _ hk => h.block k (fun e => hk (by rw [e]))⟩
theorem own_ne {w : World} {r e size n : Nat} {v : Value} {xs : List Value} (h : w.ownsRow (r + 1) e size v n xs) : v.ownBlock = none ∨ v.ownBlock ≠ some r := by
  cases hv : v.ownBlock with
  | none => exact .inl rfl
  | some g => refine .inr (fun e => ?_); injection e with e; have := (h.lt g hv).1; omega
theorem Rdr.moved {s : List UInt8} {r m b : Nat} {w w' : World} {σ : Ent.RS} {v : Value} (h : Rdr s r m b w σ v) (hM : Moved r w w') {l : List UInt8} (hA : At s r w' l) {b' : Nat} (hb : l.length + b' ≤ σ.rest.length + b) :
    Rdr s r m b' w' (σ.at l) v := by
  obtain ⟨n, h1, h2⟩ := h.names
  obtain ⟨fl, h3, h4⟩ := h.notes
  refine ⟨hA, (hM.cell 2 (by decide)).trans h.kind, (hM.frozen 2).trans h.kfree, (hM.cell 3 (by decide)).trans h.mcell, (hM.cell 4 (by decide)).trans h.ncell, (hM.frozen 4).trans h.nfree, ⟨n, ?_, ?_⟩, ⟨fl, ?_, h4⟩, h.lt⟩
  · show n + σ.notes.length + l.length + b' ≤ s.length
    omega
  · exact h2.kept (hM.block m (Nat.ne_of_lt h.lt))
  · exact h3.kept (grown_of_moved hM) (own_ne h3)
theorem At.below {s : List UInt8} {r : Nat} {w w' : World} {l : List UInt8} (h : At s r w l) (hb : Below w.heap.size w w') : At s r w' l :=
  ⟨(hb.cell (p := ⟨r, 0, none⟩) h.lt).trans h.text, (let ⟨k, h1, h2, h3⟩ := h.place; ⟨k, h1, h2, (hb.cell (p := ⟨r, 1, none⟩) h.lt).trans h3⟩), (hb.frozen (p := ⟨r, 1, none⟩) h.lt).trans h.free, Nat.lt_of_lt_of_le h.lt hb.size⟩
theorem Rdr.below {s : List UInt8} {r m b : Nat} {w w' : World} {σ : Ent.RS} {v : Value} (h : Rdr s r m b w σ v) (hb : Below w.heap.size w w') : Rdr s r m b w' σ v := by
  obtain ⟨n, h1, h2⟩ := h.names
  obtain ⟨fl, h3, h4⟩ := h.notes
  have hlt := h.at'.lt
  exact ⟨h.at'.below hb, (hb.cell (p := ⟨r, 2, none⟩) hlt).trans h.kind, (hb.frozen (p := ⟨r, 2, none⟩) hlt).trans h.kfree, (hb.cell (p := ⟨r, 3, none⟩) hlt).trans h.mcell, (hb.cell (p := ⟨r, 4, none⟩) hlt).trans h.ncell, (hb.frozen (p := ⟨r, 4, none⟩) hlt).trans h.nfree,
    ⟨n, h1, h2.kept (hb.block m h2.lt)⟩, ⟨fl, own_below h3 hb, h4⟩, h.lt⟩
theorem Rdr.mono {s : List UInt8} {r m b b' : Nat} {w : World} {σ : Ent.RS} {v : Value} (h : Rdr s r m b w σ v) (hb : b' ≤ b) : Rdr s r m b' w σ v :=
  ⟨h.at', h.kind, h.kfree, h.mcell, h.ncell, h.nfree, let ⟨n, h1, h2⟩ := h.names; ⟨n, by omega, h2⟩, h.notes, h.lt⟩
end Go.Proofs.YtddgdfcgjjdlcaaDoor
