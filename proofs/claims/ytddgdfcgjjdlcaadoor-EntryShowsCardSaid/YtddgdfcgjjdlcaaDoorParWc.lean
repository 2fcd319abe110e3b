/- The walks of package entry's reader: within an entry. -/
import Derived.Test.YtddgdfcgjjdlcaaDoorParWb
namespace Go.Proofs.YtddgdfcgjjdlcaaDoor
open Go.RowKit

namespace Ent
theorem pair_bad1 (σ : RS) (h : (mark σ.rest).1 = none) : pair σ = (none, σ.at (mark σ.rest).2) := by
  unfold pair markS
  dsimp only
  rw [h]
theorem pair_bad2 (σ : RS) (m : List UInt8) (h : (mark σ.rest).1 = some m) (h2 : isB 61 (mark σ.rest).2 = false) : pair σ = (none, σ.at (isL 61 (mark σ.rest).2)) := by
  unfold pair markS
  dsimp only
  rw [h]
  dsimp only
  rw [if_neg (by show ¬ isB 61 (mark σ.rest).2 = true; rw [h2]; simp)]
  rfl
theorem pair_bad3 (σ : RS) (m : List UInt8) (h : (mark σ.rest).1 = some m) (h2 : isB 61 (mark σ.rest).2 = true) (h3 : (value (σ.at (isL 61 (mark σ.rest).2))).1 = none) : pair σ = (none, (value (σ.at (isL 61 (mark σ.rest).2))).2) := by
  unfold pair markS
  dsimp only
  rw [h]
  dsimp only
  rw [if_pos (by exact h2)]
  have h4 : (value ((σ.at (mark σ.rest).2).at (isL 61 (σ.at (mark σ.rest).2).rest))).1 = none := h3
  rw [h4]
  rfl
theorem pair_ok (σ : RS) (m t : List UInt8) (h : (mark σ.rest).1 = some m) (h2 : isB 61 (mark σ.rest).2 = true) (h3 : (value (σ.at (isL 61 (mark σ.rest).2))).1 = some t) : pair σ = (some (small m, t), (value (σ.at (isL 61 (mark σ.rest).2))).2) := by
  unfold pair markS
  dsimp only
  rw [h]
  dsimp only
  rw [if_pos (by exact h2)]
  have h4 : (value ((σ.at (mark σ.rest).2).at (isL 61 (σ.at (mark σ.rest).2).rest))).1 = some t := h3
  rw [h4]
  rfl
end Ent
theorem At.same {s : List UInt8} {r : Nat} {w w' : World} {l : List UInt8} (h : At s r w l) (hr : w'.heap[r]? = w.heap[r]?) (hz : w.heap.size ≤ w'.heap.size) : At s r w' l :=
  ⟨(World.cell?_of_block (a := ⟨r, 0, none⟩) hr).trans h.text, (let ⟨k, h1, h2, h3⟩ := h.place; ⟨k, h1, h2, (World.cell?_of_block (a := ⟨r, 1, none⟩) hr).trans h3⟩), (World.frozen?_of_block (a := ⟨r, 1, none⟩) hr).trans h.free, Nat.lt_of_lt_of_le h.lt hz⟩
theorem own_same {w w' : World} {base e size n : Nat} {v : Value} {xs : List Value} (h : w.ownsRow base e size v n xs) (hb : ∀ j, v.ownBlock = some j → w'.heap[j]? = w.heap[j]?) : w'.ownsRow base e size v n xs := by
  obtain ⟨h1, h2⟩ := h
  refine ⟨h1, ?_⟩
  rcases h2 with ⟨rfl, h0⟩ | ⟨g, cap, cur, rfl, hb', hg, hle, hm, hcs, hcur⟩
  · exact .inl ⟨rfl, h0⟩
  · exact .inr ⟨g, cap, cur, rfl, hb', (hb g rfl).trans hg, hle, hm, hcs, hcur⟩
theorem Rdr.same {s : List UInt8} {r m b : Nat} {w w' : World} {σ : Ent.RS} {v : Value} (h : Rdr s r m b w σ v) (hr : w'.heap[r]? = w.heap[r]?) (hm : w'.heap[m]? = w.heap[m]?) (hv : ∀ j, v.ownBlock = some j → w'.heap[j]? = w.heap[j]?) (hz : w.heap.size ≤ w'.heap.size) :
    Rdr s r m b w' σ v :=
  ⟨h.at'.same hr hz, (World.cell?_of_block (a := ⟨r, 2, none⟩) hr).trans h.kind, (World.frozen?_of_block (a := ⟨r, 2, none⟩) hr).trans h.kfree, (World.cell?_of_block (a := ⟨r, 3, none⟩) hr).trans h.mcell, (World.cell?_of_block (a := ⟨r, 4, none⟩) hr).trans h.ncell, (World.frozen?_of_block (a := ⟨r, 4, none⟩) hr).trans h.nfree,
    (let ⟨n, h1, h2⟩ := h.names; ⟨n, h1, h2.kept hm⟩), (let ⟨fl, h1, h2⟩ := h.notes; ⟨fl, own_same h1 hv, h2⟩), h.lt⟩
theorem Res3.same {w w' : World} {g : Nat} {k y : List UInt8} {vf : Value} {is : Bool} {e : Int} (h : Res3 w g k y vf is e) (hb : ∀ j, g ≤ j → j ≤ g + 2 → w'.heap[j]? = w.heap[j]?) (hz : w.heap.size ≤ w'.heap.size) : Res3 w' g k y vf is e :=
  ⟨(World.cell?_of_block (a := ⟨g, 0, none⟩) (hb g (by omega) (by omega))).trans h.k, (World.cell?_of_block (a := ⟨g, 1, none⟩) (hb g (by omega) (by omega))).trans h.y, (World.cell?_of_block (a := ⟨g, 2, none⟩) (hb g (by omega) (by omega))).trans h.vf,
    (World.cell?_of_block (a := ⟨g + 1, 0, none⟩) (hb (g + 1) (by omega) (by omega))).trans h.is, (World.cell?_of_block (a := ⟨g + 2, 0, none⟩) (hb (g + 2) (by omega) (by omega))).trans h.e,
    fun i hi => (World.frozen?_of_block (a := ⟨g, i, none⟩) (hb g (by omega) (by omega))).trans (h.fk i hi), (World.frozen?_of_block (a := ⟨g + 1, 0, none⟩) (hb (g + 1) (by omega) (by omega))).trans h.fi, (World.frozen?_of_block (a := ⟨g + 2, 0, none⟩) (hb (g + 2) (by omega) (by omega))).trans h.fe, Nat.lt_of_lt_of_le h.lt hz⟩
theorem Rdr.kinded {s : List UInt8} {r m b : Nat} {w : World} {σ : Ent.RS} {v : Value} (h : Rdr s r m b w σ v) (k : List UInt8) : Rdr s r m b (w.setCell ⟨r, 2, none⟩ (.string ⟨k.toArray⟩)) { σ with kind := k } v := by
  have hlt := h.at'.lt
  have hs : ∀ i, i ≠ 2 → (w.setCell ⟨r, 2, none⟩ (.string ⟨k.toArray⟩)).cell? ⟨r, i, none⟩ = w.cell? ⟨r, i, none⟩ := fun i hi => World.cell?_setCell_other _ _ _ _ (fun e => hi (by cases e; rfl))
  have hz : ∀ i, (w.setCell ⟨r, 2, none⟩ (.string ⟨k.toArray⟩)).frozen? ⟨r, i, none⟩ = w.frozen? ⟨r, i, none⟩ := fun i => by simp
  obtain ⟨n, h1, h2⟩ := h.names
  obtain ⟨p, h3, h4, h5⟩ := h.at'.place
  obtain ⟨fl, h6, h7⟩ := h.notes
  exact ⟨⟨(hs 0 (by decide)).trans h.at'.text, ⟨p, h3, h4, (hs 1 (by decide)).trans h5⟩, (hz 1).trans h.at'.free, by simpa using hlt⟩, World.cell?_setCell_same _ _ _ h.kind, (hz 2).trans h.kfree, (hs 3 (by decide)).trans h.mcell, (hs 4 (by decide)).trans h.ncell, (hz 4).trans h.nfree,
    ⟨n, h1, h2.kept (Below.heap_setCell _ _ _ _ (Nat.ne_of_lt h.lt))⟩, ⟨fl, h6.kept (grown_set w r 2 _) (own_ne h6), h7⟩, h.lt⟩
theorem step_set (r m : Nat) (v : Value) (w : World) (i : Nat) (u : Value) : Step r m v v w (w.setCell ⟨r, i, none⟩ u) :=
  ⟨rfl, rfl, rfl, by simp, fun _ _ hk _ _ => Below.heap_setCell _ _ _ _ hk, .inl rfl⟩

theorem Rdr.named {s : List UInt8} {r m b n : Nat} {w w' : World} {σ : Ent.RS} {v : Value} (h : Rdr s r m (b + 1) w σ v) (hn : n + σ.notes.length + σ.rest.length + (b + 1) ≤ s.length) {f : List UInt8 → Option (List UInt8)} (hm : SMap w' m (n + 1) f) (hg : w.grownBy w' (some m)) :
    Rdr s r m b w' { σ with names := f } v := by
  have hl := h.at'.lt
  have hlm := h.lt
  obtain ⟨fl, h1, h2⟩ := h.notes
  have hr : w'.heap[r]? = w.heap[r]? := hg.block r hl (fun e => by injection e with e; omega)
  exact ⟨h.at'.same hr hg.size, (World.cell?_of_block (a := ⟨r, 2, none⟩) hr).trans h.kind, (World.frozen?_of_block (a := ⟨r, 2, none⟩) hr).trans h.kfree, (World.cell?_of_block (a := ⟨r, 3, none⟩) hr).trans h.mcell, (World.cell?_of_block (a := ⟨r, 4, none⟩) hr).trans h.ncell, (World.frozen?_of_block (a := ⟨r, 4, none⟩) hr).trans h.nfree,
    ⟨n + 1, by show n + 1 + σ.notes.length + σ.rest.length + b ≤ s.length; omega, hm⟩, ⟨fl, own_same h1 (fun j hj => hg.block j (h1.lt j hj).2 (fun e => by injection e with e; have := (h1.lt j hj).1; omega)), h2⟩, h.lt⟩
theorem step_named {r m : Nat} {w w' : World} {v : Value} (hg : w.grownBy w' (some m)) : Step r m v v w w' :=
  ⟨hg.os, hg.tape, hg.output, hg.size, fun k hk _ h2 _ => hg.block k hk (fun e => by injection e with e; omega), .inl rfl⟩
theorem died_put (w : World) (g : Nat) (k y : List UInt8) (vf : Value) (is : Bool) (e : Int) : Died g w (put3 w g k y vf is e) where
  os := by simp only [put3, World.setCell]
  tape := by simp only [put3, World.setCell]
  output := by simp only [put3, World.setCell]
  size := Nat.le_of_eq (put3_size w g k y vf is e).symm
  block := fun j _ h0 h1 h2 => put3_block w g k y vf is e j h0 h1 h2

/-- within an entry: w as it began; v0, v its notes, then and now -/
structure EIn (s : List UInt8) (r m b : Nat) (w : World) (v0 : Value) (σ : Ent.RS) (k y : List UInt8) (vf : Value) (is : Bool) (e : Int) (W : World) (v : Value) : Prop where
  rdr : Rdr s r m b W σ v
  step : Step r m v0 v w W
  res : Res3 W w.heap.size k y vf is e
  away : ∀ j, w.heap.size ≤ j → j ≤ w.heap.size + 2 → v.ownBlock ≠ some j
  lt : r < w.heap.size
section
variable {s : List UInt8} {r m b : Nat} {w : World} {v0 : Value} {σ : Ent.RS} {k y : List UInt8} {vf : Value} {is : Bool} {e : Int} {W : World} {v : Value}
theorem EIn.next (h : EIn s r m b w v0 σ k y vf is e W v) {b' : Nat} {σ' : Ent.RS} {W' : World} {v' : Value} (hR : Rdr s r m b' W' σ' v') (hS : Step r m v v' W W') : EIn s r m b' w v0 σ' k y vf is e W' v' := by
  have hl := h.lt
  have hm := h.rdr.lt
  have hz := h.res.lt
  refine ⟨hR, h.step.trans hS, h.res.same (fun j h1 h2 => hS.block j (by omega) (by omega) (by omega) (h.away j h1 h2)) hS.size, fun j h1 h2 => ?_, hl⟩
  rcases hS.own with e | ⟨g, e, hg⟩
  · rw [e]; exact h.away j h1 h2
  · rw [e]; intro e2; injection e2 with e2; omega
theorem EIn.moved (h : EIn s r m b w v0 σ k y vf is e W v) {W' : World} {l : List UInt8} (hM : Moved r W W') (hA : At s r W' l) {b' : Nat} (hb : l.length + b' ≤ σ.rest.length + b) : EIn s r m b' w v0 (σ.at l) k y vf is e W' v :=
  h.next (h.rdr.moved hM hA hb) (hM.step m v)
theorem EIn.below (h : EIn s r m b w v0 σ k y vf is e W v) {W' : World} (hb : Below W.heap.size W W') : EIn s r m b w v0 σ k y vf is e W' v := h.next (h.rdr.below hb) (Step.below hb r m v)
theorem EIn.kinded (h : EIn s r m b w v0 σ k y vf is e W v) (k' : List UInt8) : EIn s r m b w v0 { σ with kind := k' } k y vf is e (W.setCell ⟨r, 2, none⟩ (.string ⟨k'.toArray⟩)) v := h.next (h.rdr.kinded k') (step_set r m v W 2 _)
theorem EIn.mono (h : EIn s r m b w v0 σ k y vf is e W v) {b' : Nat} (hb : b' ≤ b) : EIn s r m b' w v0 σ k y vf is e W v := ⟨h.rdr.mono hb, h.step, h.res, h.away, h.lt⟩
theorem EIn.own_far (h : EIn s r m b w v0 σ k y vf is e W v) {j : Nat} (hj : v.ownBlock = some j) : j < w.heap.size ∨ w.heap.size + 2 < j := by
  by_cases h1 : j < w.heap.size
  · exact .inl h1
  · by_cases h2 : j ≤ w.heap.size + 2
    · exact absurd hj (h.away j (by omega) h2)
    · exact .inr (by omega)
theorem Rdr.died (h : EIn s r m b w v0 σ k y vf is e W v) {W' : World} (hD : Died w.heap.size W W') : Rdr s r m b W' σ v := by
  have hl := h.lt
  have hm := h.rdr.lt
  have hz := h.res.lt
  obtain ⟨fl, h1, _⟩ := h.rdr.notes
  exact h.rdr.same (hD.block r (by omega) (by omega) (by omega) (by omega)) (hD.block m (by omega) (by omega) (by omega) (by omega)) (fun j hj => by
    have h2 := (h1.lt j hj).2
    rcases h.own_far hj with h3 | h3
    · exact hD.block j h2 (by omega) (by omega) (by omega)
    · exact hD.block j h2 (by omega) (by omega) (by omega)) hD.size
theorem Step.died (h : EIn s r m b w v0 σ k y vf is e W v) {W' : World} (hD : Died w.heap.size W W') : Step r m v0 v w W' := by
  have hz := h.res.lt
  exact ⟨hD.os.trans h.step.os, hD.tape.trans h.step.tape, hD.output.trans h.step.output, Nat.le_trans h.step.size hD.size, fun j hj h1 h2 h3 => (hD.block j (by omega) (by omega) (by omega) (by omega)).trans (h.step.block j hj h1 h2 h3), h.step.own⟩
theorem EIn.wrote (h : EIn s r m b w v0 σ k y vf is e W v) {W' : World} (hD : Died w.heap.size W W') {k' y' : List UInt8} {vf' : Value} {is' : Bool} {e' : Int} (hr : Res3 W' w.heap.size k' y' vf' is' e') : EIn s r m b w v0 σ k' y' vf' is' e' W' v :=
  ⟨Rdr.died h hD, Step.died h hD, hr, h.away, h.lt⟩
end
/-- what a call of 'entry' hands back -/
def EntryPost (s : List UInt8) (r m b : Nat) (w : World) (v0 : Value) (o : Option (Option Ent.Ent) × Ent.RS) (e : Ending) (w' : World) : Prop :=
  ∃ (vx v' : Value), e = .returned (.tuple #[vx, .bool (match o.1 with | some (some _) => true | _ => false), .int .i64 (match o.1 with | none => Ent.err o.2.rest | _ => 0)]) ∧ Rdr s r m b w' o.2 v' ∧ Step r m v0 v' w w' ∧
    (match o.1 with
     | some (some x) => ∃ vs : List Value, vx = .agg vs.toArray ∧ REnt (fun j => w.heap.size ≤ j ∧ v'.ownBlock ≠ some j) w' x vs
     | _ => vx = .agg #[.string ⟨#[]⟩, .string ⟨#[]⟩, .slice none 0 0])
theorem entry_leaves {s : List UInt8} {r m b : Nat} {w : World} {v0 : Value} {σ : Ent.RS} {k y : List UInt8} {vf : Value} {is : Bool} {e : Int} {W : World} {v : Value} (h : EIn s r m b w v0 σ k y vf is e W v) (tmps : Array Value)
    (h2 : tmps[2]?.getD undef = .pointer (some ⟨w.heap.size, 0, none⟩)) (h3 : tmps[3]?.getD undef = .pointer (some ⟨w.heap.size + 1, 0, none⟩)) (h4 : tmps[4]?.getD undef = .pointer (some ⟨w.heap.size + 2, 0, none⟩))
    (k' y' : List UInt8) (vf' : Value) (is' : Bool) (e' : Int) (o : Option (Option Ent.Ent) × Ent.RS)
    (hp : ∀ w', EIn s r m b w v0 σ k' y' vf' is' e' w' v → Below (put3 W w.heap.size k' y' vf' is' e').heap.size (put3 W w.heap.size k' y' vf' is' e') w' → EntryPost s r m b w v0 o (.returned (.tuple #[.agg #[.string ⟨k'.toArray⟩, .string ⟨y'.toArray⟩, vf'], .bool is', .int .i64 e'])) w') :
    Leaves Tryd.prog Tryd.f28 tmps (EntryPost s r m b w v0 o) (tail1 w.heap.size) .returning (put3 W w.heap.size k' y' vf' is' e') := by
  have hr := h.res.put k' y' vf' is' e'
  refine leaves_idle tmps _ w.heap.size k' y' vf' is' e' hr h2 h3 h4 _ (fun w' hb => hp w' ((h.wrote (died_put W _ _ _ _ _ _) hr).below hb) hb)
theorem entry_dies {s : List UInt8} {r m b : Nat} {w : World} {v0 : Value} {σ : Ent.RS} {k y : List UInt8} {vf : Value} {is : Bool} {e : Int} {W : World} {v : Value} (h : EIn s r m b w v0 σ k y vf is e W v) (tmps : Array Value)
    (h2 : tmps[2]?.getD undef = .pointer (some ⟨w.heap.size, 0, none⟩)) (h3 : tmps[3]?.getD undef = .pointer (some ⟨w.heap.size + 1, 0, none⟩)) (h4 : tmps[4]?.getD undef = .pointer (some ⟨w.heap.size + 2, 0, none⟩))
    (o : Option (Option Ent.Ent) × Ent.RS) (ho : o = (none, σ)) :
    Leaves Tryd.prog Tryd.f28 tmps (EntryPost s r m b w v0 o) (tail1 w.heap.size) (.panicking [{ v := .iface 71 (.agg #[.int .i64 (Ent.err σ.rest)]), recovered := false }]) W := by
  refine leaves_dies tmps W w.heap.size k y vf is e _ h.res h2 h3 h4 _ (fun w' hD => ?_)
  subst ho
  exact ⟨_, v, rfl, Rdr.died h hD, Step.died h hD, rfl⟩
end Go.Proofs.YtddgdfcgjjdlcaaDoor
