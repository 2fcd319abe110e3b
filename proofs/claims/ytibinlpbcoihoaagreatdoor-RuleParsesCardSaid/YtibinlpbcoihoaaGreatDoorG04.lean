/- The walks of package entry's reader: within an entry. The walks of package entry's reader: an entry's fields, as they are put together. The walks of package entry's reader: an entry. The walk of package entry's Parse: what stands in memory. Support for the walks of a chapter: worlds, bytes, rows of the call's own. The walks of package count (layer 1): each function returns what the plain model computes. The walks of package count, third part: a counter's text, and the counter that a text is. Slices of structs as they are handed in, opened as lists: elements of any kind. No program in sight. -/
import Derived.Test.YtibinlpbcoihoaaGreatDoorG03
import Derived.StillTailTactics
import Derived.Test.YtibinlpbcoihoaaGreatDoorG00
import Derived.Test.YtibinlpbcoihoaaGreatDoorG01
import Derived.WalkKit
import Derived.Maps.OwnSet
import Derived.Test.YtibinlpbcoihoaaGreatDoorChecked
import Derived.Test.YtibinlpbcoihoaaGreatDoorShelf
import Derived.Lib.AppendIntMem
import Derived.Deep.Slices
import Derived.Deep.Strs
import Derived.OpenShut
import Derived.ProofKit
set_option linter.unusedSimpArgs false
set_option linter.unusedVariables false
namespace Go.Proofs.YtibinlpbcoihoaaGreatDoor
open Go.RowKit

namespace Ent
end Ent
theorem At.same {s : List UInt8} {r : Nat} {w w' : World} {l : List UInt8} (h : At s r w l) (hr : w'.heap[r]? = w.heap[r]?) (hz : w.heap.size ≤ w'.heap.size) : At s r w' l :=
  ⟨(World.cell?_of_block (a := ⟨r, 0, none⟩) hr).trans h.text, (let ⟨k, h1, h2, h3⟩ := h.place; ⟨k, h1, h2, (World.cell?_of_block (a := ⟨r, 1, none⟩) hr).trans h3⟩), (World.frozen?_of_block (a := ⟨r, 1, none⟩) hr).trans h.free, Nat.lt_of_lt_of_le h.lt hz⟩
theorem own_same {w w' : World} {base e size n : Nat} {v : Value} {xs : List Value} (h : w.ownsRow base e size v n xs) (hb : ∀ j, v.ownBlock = some j → w'.heap[j]? = w.heap[j]?) : w'.ownsRow base e size v n xs := by
  obtain ⟨h1, h2⟩ := h
  refine ⟨h1, ?_⟩
  rcases h2 with ⟨rfl, h0⟩ | ⟨g, cap, cur, rfl, hb', hg, hle, hm, hcs, hcur⟩
  · exact .inl ⟨rfl, h0⟩
  · exact .inr ⟨g, cap, cur, rfl, hb', (hb g rfl).trans hg, hle, hm, hcs, hcur⟩
theorem Rdr.same {s : List UInt8} {r m b : Nat} {w w' : World} {σ : Ent.RS} {v : Value} (h : Rdr s r m b w σ v) (hr : w'.heap[r]? = w.heap[r]?) (hm : w'.heap[m]? = w.heap[m]?) (hv : ∀ j, v.ownBlock = some j → w'.heap[j]? = w.heap[j]?) (hz : w.heap.size ≤ w'.heap.size) :
    Rdr s r m b w' σ v :=
  ⟨h.at'.same hr hz, (World.cell?_of_block (a := ⟨r, 2, none⟩) hr).trans h.kind, (World.frozen?_of_block (a := ⟨r, 2, none⟩) hr).trans h.kfree, (World.cell?_of_block (a := ⟨r, 3, none⟩) hr).trans h.mcell, (World.cell?_of_block (a := ⟨r, 4, none⟩) hr).trans h.ncell, (World.frozen?_of_block (a := ⟨r, 4, none⟩) hr).trans h.nfree,
    (let ⟨n, h1, h2⟩ := h.names; ⟨n, h1, h2.kept hm⟩), (let ⟨fl, h1, h2⟩ := h.notes; ⟨fl, own_same h1 hv, h2⟩), h.lt⟩
theorem Res3.same {w w' : World} {g : Nat} {k y : List UInt8} {vf : Value} {is : Bool} {e : Int} (h : Res3 w g k y vf is e) (hb : ∀ j, g ≤ j → j ≤ g + 2 → w'.heap[j]? = w.heap[j]?) (hz : w.heap.size ≤ w'.heap.size) : Res3 w' g k y vf is e :=
  ⟨(World.cell?_of_block (a := ⟨g, 0, none⟩) (hb g (by omega) (by omega))).trans h.k, (World.cell?_of_block (a := ⟨g, 1, none⟩) (hb g (by omega) (by omega))).trans h.y, (World.cell?_of_block (a := ⟨g, 2, none⟩) (hb g (by omega) (by omega))).trans h.vf,
    (World.cell?_of_block (a := ⟨g + 1, 0, none⟩) (hb (g + 1) (by omega) (by omega))).trans h.is, (World.cell?_of_block (a := ⟨g + 2, 0, none⟩) (hb (g + 2) (by omega) (by omega))).trans h.e,
    fun i hi => (World.frozen?_of_block (a := ⟨g, i, none⟩) (hb g (by omega) (by omega))).trans (h.fk i hi), (World.frozen?_of_block (a := ⟨g + 1, 0, none⟩) (hb (g + 1) (by omega) (by omega))).trans h.fi, (World.frozen?_of_block (a := ⟨g + 2, 0, none⟩) (hb (g + 2) (by omega) (by omega))).trans h.fe, Nat.lt_of_lt_of_le h.lt hz⟩
/-- within an entry: w as it began; v0, v its notes, then and now -/
structure EIn (s : List UInt8) (r m b : Nat) (w : World) (v0 : Value) (σ : Ent.RS) (k y : List UInt8) (vf : Value) (is : Bool) (e : Int) (W : World) (v : Value) : Prop where
  rdr : Rdr s r m b W σ v
  step : Step r m v0 v w W
  res : Res3 W w.heap.size k y vf is e
  away : ∀ j, w.heap.size ≤ j → j ≤ w.heap.size + 2 → v.ownBlock ≠ some j
  lt : r < w.heap.size
section
variable {s : List UInt8} {r m b : Nat} {w : World} {v0 : Value} {σ : Ent.RS} {k y : List UInt8} {vf : Value} {is : Bool} {e : Int} {W : World} {v : Value}
theorem EIn.next (h : EIn s r m b w v0 σ k y vf is e W v) {b' : Nat} {σ' : Ent.RS} {W' : World} {v' : Value} (hR : Rdr s r m b' W' σ' v') (hS : Step r m v v' W W') : EIn s r m b' w v0 σ' k y vf is e W' v' := by
  have hl := h.lt
  have hm := h.rdr.lt
  have hz := h.res.lt
  refine ⟨hR, h.step.trans hS, h.res.same (fun j h1 h2 => hS.block j (by omega) (by omega) (by omega) (h.away j h1 h2)) hS.size, fun j h1 h2 => ?_, hl⟩
  rcases hS.own with e | ⟨g, e, hg⟩
  · rw [e]; exact h.away j h1 h2
  · rw [e]; intro e2; injection e2 with e2; omega
theorem EIn.moved (h : EIn s r m b w v0 σ k y vf is e W v) {W' : World} {l : List UInt8} (hM : Moved r W W') (hA : At s r W' l) {b' : Nat} (hb : l.length + b' ≤ σ.rest.length + b) : EIn s r m b' w v0 (σ.at l) k y vf is e W' v :=
  h.next (h.rdr.moved hM hA hb) (hM.step m v)
theorem EIn.below (h : EIn s r m b w v0 σ k y vf is e W v) {W' : World} (hb : Below W.heap.size W W') : EIn s r m b w v0 σ k y vf is e W' v := h.next (h.rdr.below hb) (Step.below hb r m v)
theorem EIn.mono (h : EIn s r m b w v0 σ k y vf is e W v) {b' : Nat} (hb : b' ≤ b) : EIn s r m b' w v0 σ k y vf is e W v := ⟨h.rdr.mono hb, h.step, h.res, h.away, h.lt⟩
end
end Go.Proofs.YtibinlpbcoihoaaGreatDoor
namespace Go.Proofs.YtibinlpbcoihoaaGreatDoor
open Go.RowKit

namespace Ent
end Ent
/-- the fields as far as they were read -/
structure FIn (w : World) (vf : Value) (fs : List Ent.Fld) (W : World) (v : Value) : Prop where
  row : ∃ fl, W.ownsRow w.heap.size 401 2 vf fs.length fl ∧ RepRow RFld fs fl
  sep : ∀ j, vf.ownBlock = some j → v.ownBlock ≠ some j ∧ w.heap.size + 2 < j
theorem FIn.nil (w W : World) (v : Value) : FIn w (.slice none 0 0) [] W v := ⟨⟨[], ⟨rfl, .inl ⟨rfl, rfl⟩⟩, rfl⟩, fun j h => by simp [Value.ownBlock] at h⟩
section
variable {s : List UInt8} {r m b : Nat} {w : World} {v0 : Value} {σ : Ent.RS} {k y : List UInt8} {vf : Value} {is : Bool} {e : Int} {W : World} {v : Value} {fs : List Ent.Fld}
theorem FIn.next (hF : FIn w vf fs W v) (hE : EIn s r m b w v0 σ k y vf is e W v) {W' : World} {v' : Value} (hS : Step r m v v' W W') : FIn w vf fs W' v' := by
  have hl := hE.lt
  have hm := hE.rdr.lt
  obtain ⟨fl, h1, h2⟩ := hF.row
  refine ⟨⟨fl, own_same h1 (fun j hj => ?_), h2⟩, fun j hj => ⟨?_, (hF.sep j hj).2⟩⟩
  · obtain ⟨h3, h4⟩ := hF.sep j hj
    exact hS.block j (h1.lt j hj).2 (by omega) (by omega) h3
  · rcases hS.own with e | ⟨g, e, hg⟩
    · rw [e]; exact (hF.sep j hj).1
    · rw [e]; intro e2; injection e2 with e2; have := (h1.lt j hj).2; omega
theorem FIn.slice (hF : FIn w vf fs W v) : SliceIn (fun j => w.heap.size ≤ j ∧ v.ownBlock ≠ some j) 2 RFld W vf fs := by
  obtain ⟨fl, h1, h2⟩ := hF.row
  exact SliceIn.own h1 h2 RFld.size rfl (fun j hj => ⟨by have := (hF.sep j hj).2; omega, (hF.sep j hj).1⟩)
theorem FIn.form (hF : FIn w vf fs W v) : ∃ p n c, vf = .slice p n c := by
  obtain ⟨fl, h1, _⟩ := hF.row
  rcases h1.2 with ⟨h, _⟩ | ⟨g, cap, cur, h, _⟩
  · exact ⟨_, _, _, h⟩
  · exact ⟨_, _, _, h⟩
theorem FIn.below (hF : FIn w vf fs W v) {W' : World} (hb : Below W.heap.size W W') : FIn w vf fs W' v :=
  ⟨let ⟨fl, h1, h2⟩ := hF.row; ⟨fl, own_below h1 hb, h2⟩, hF.sep⟩
end
end Go.Proofs.YtibinlpbcoihoaaGreatDoor
namespace Go.Proofs.YtibinlpbcoihoaaGreatDoor
open Go.RowKit

theorem new_frozen (w : World) (cs : Array Value) (t : TypeId) (i : Nat) : (w.alloc (.cells cs t)).frozen? ⟨w.heap.size, i, none⟩ = false := by
  unfold World.frozen?
  rw [heap_alloc_new w _]
  simp
end Go.Proofs.YtibinlpbcoihoaaGreatDoor
namespace Go.Proofs.YtibinlpbcoihoaaGreatDoor
open Go.RowKit

theorem SliceIn.moved {α : Type} {S S' : Nat → Prop} {size : Nat} {R R' : α → List Value → Prop} {w w' : World} {v : Value} {xs : List α} (h : SliceIn S size R w v xs)
    (hs : ∀ b, S b → b < w.heap.size → S' b ∧ w'.heap[b]? = w.heap[b]?) (hz : w.heap.size ≤ w'.heap.size) (hR : ∀ x vs, x ∈ xs → R x vs → R' x vs) : SliceIn S' size R' w' v xs := by
  obtain ⟨p, cap, hv, h1, h2, h3⟩ := h
  refine ⟨p, cap, hv, h1, h2, fun i x hi => ?_⟩
  obtain ⟨b, off, vs, hp, hS, hlt, hr, hc⟩ := h3 i x hi
  exact ⟨b, off, vs, hp, (hs b hS hlt).1, Nat.lt_of_lt_of_le hlt hz, hR x vs (List.mem_of_getElem? hi) hr, fun j u hj => (World.cell?_of_block (hs b hS hlt).2).trans (hc j u hj)⟩
theorem REnt.moved {S S' : Nat → Prop} {w w' : World} {x : Ent.Ent} {vs : List Value} (h : REnt S w x vs) (hs : ∀ b, S b → b < w.heap.size → S' b ∧ w'.heap[b]? = w.heap[b]?) (hz : w.heap.size ≤ w'.heap.size) : REnt S' w' x vs := by
  obtain ⟨vf, rfl, h⟩ := h
  exact ⟨vf, rfl, h.moved hs hz (fun _ _ _ h => h)⟩
set_option maxRecDepth 100000 in
theorem IMap.run {w : World} {b n : Nat} {f : List UInt8 → Int} (h : IMap w b n f) (s : List UInt8) (hs : s.length ≤ maxLen) (c : Int) (hc : f s = c) :
    (Instr.lookup 56 (.map (some b)) (.string ⟨s.toArray⟩) false).run Tryz.prog w = .ok (.int .i64 c) w := by
  obtain ⟨D, h1, h2⟩ := h
  obtain ⟨d, hr, hat, _⟩ := h1.lookup_int skeyed Tryz.underlying56 Tryz.underlying3 (zero_int w) (skey s hs)
  rw [h2 s] at hat
  injection hat with hat
  injection hat with _ hat
  rw [hr, ← hc, hat]
/-- blocks of entries that were read -/
def OutS (q : Nat) (v vo : Value) (j : Nat) : Prop := q < j ∧ v.ownBlock ≠ some j ∧ vo.ownBlock ≠ some j
/-- the whole reading: q the block of the keys that were seen, vo what was read -/
structure PIn (s : List UInt8) (r m q b : Nat) (w : World) (σ : Ent.RS) (out : List Ent.Ent) (W : World) (v vo : Value) : Prop where
  rdr : Rdr s r m b W σ v
  below : Below w.heap.size w W
  mw : w.heap.size ≤ m
  rq : r < q
  seen : ∃ (cnt : Nat) (f : List UInt8 → Int), cnt + σ.rest.length + b ≤ s.length ∧ IMap W q cnt f ∧ ∀ key, (Ent.has out key = true → f key = 1) ∧ (Ent.has out key = false → f key = 0)
  rows : ∃ fl, W.ownsRow (q + 1) 155 3 vo out.length fl ∧ RepRow (REnt (OutS q v vo) W) out fl
  cnt : out.length + σ.rest.length + b ≤ s.length
  vq : v.ownBlock ≠ some q
  sep : ∀ j, vo.ownBlock = some j → v.ownBlock ≠ some j
  names : Ent.NamesOk σ
section
variable {s : List UInt8} {r m q b : Nat} {w : World} {σ : Ent.RS} {out : List Ent.Ent} {W : World} {v vo : Value}
/-- behind a step of the reader -/
theorem PIn.next (h : PIn s r m q b w σ out W v vo) {b' : Nat} {σ' : Ent.RS} {W' : World} {v' : Value} (hR : Rdr s r m b' W' σ' v') (hS : Step r m v v' W W') (hl : σ'.rest.length + b' ≤ σ.rest.length + b) (hN : Ent.NamesOk σ') :
    PIn s r m q b' w σ' out W' v' vo := by
  have hm := h.rdr.lt
  have hmw := h.mw
  have hrq := h.rq
  obtain ⟨cnt, f, h1, h2, h3⟩ := h.seen
  obtain ⟨fl, h4, h5⟩ := h.rows
  have hq := h2.lt
  have hcnt := h.cnt
  have hvq : v'.ownBlock ≠ some q := by
    rcases hS.own with e | ⟨g, e, hg⟩
    · rw [e]; exact h.vq
    · rw [e]; intro e2; injection e2 with e2; omega
  have hsep : ∀ j, vo.ownBlock = some j → v'.ownBlock ≠ some j := fun j hj => by
    rcases hS.own with e | ⟨g, e, hg⟩
    · rw [e]; exact h.sep j hj
    · rw [e]; intro e2; injection e2 with e2; have := (h4.lt j hj).2; omega
  refine ⟨hR, ?_, hmw, hrq, ⟨cnt, f, by omega, h2.kept (hS.block q hq (by omega) (by omega) h.vq), h3⟩, ⟨fl, own_same h4 (fun j hj => hS.block j (h4.lt j hj).2 (by have := (h4.lt j hj).1; omega) (by have := (h4.lt j hj).1; omega) (h.sep j hj)), ?_⟩, by omega, hvq, hsep, hN⟩
  · refine ⟨hS.os.trans h.below.os, hS.tape.trans h.below.tape, hS.output.trans h.below.output, Nat.le_trans h.below.size hS.size, fun k hk => ?_⟩
    have h6 := h.below.size
    refine (hS.block k (by omega) (by omega) (by omega) (fun e => ?_)).trans (h.below.block k hk)
    obtain ⟨fl2, h7, _⟩ := h.rdr.notes
    have := (h7.lt k e).1
    omega
  · refine h5.imp (fun x vs _ hx => hx.moved (fun j hj hlt => ⟨⟨hj.1, ?_, hj.2.2⟩, hS.block j hlt (by have := hj.1; omega) (by have := hj.1; omega) hj.2.1⟩) hS.size)
    rcases hS.own with e | ⟨g, e, hg⟩
    · rw [e]; exact hj.2.1
    · rw [e]; intro e2; injection e2 with e2; omega
theorem PIn.moved (h : PIn s r m q b w σ out W v vo) {W' : World} {l : List UInt8} (hM : Moved r W W') (hA : At s r W' l) {b' : Nat} (hb : l.length + b' ≤ σ.rest.length + b) : PIn s r m q b' w (σ.at l) out W' v vo :=
  h.next (h.rdr.moved hM hA hb) (hM.step m v) hb h.names
theorem PIn.mono (h : PIn s r m q b w σ out W v vo) {b' : Nat} (hb : b' ≤ b) : PIn s r m q b' w σ out W v vo := h.next (h.rdr.mono hb) (Step.refl r m v W) (by omega) h.names
/-- a key more that was seen, and its entry -/
theorem PIn.kept (h : PIn s r m q (b + 1) w σ out W v vo) {x : Ent.Ent} (hx : Ent.has out x.key = false) {W' : World} {f : List UInt8 → Int} {cnt : Nat} (hcnt : cnt + σ.rest.length + (b + 1) ≤ s.length)
    (hm : IMap W' q (cnt + 1) (fun t => if t = x.key then 1 else f t)) (hf : ∀ key, (Ent.has out key = true → f key = 1) ∧ (Ent.has out key = false → f key = 0)) (hg : W.grownBy W' (some q))
    {W'' : World} {vo' : Value} {fl vs : List Value} (hrow : RepRow (REnt (OutS q v vo) W) out fl) (hr : REnt (OutS q v vo) W x vs) (hown : W''.ownsRow (q + 1) 155 3 vo' (out.length + 1) (fl ++ vs)) (hg2 : W'.grownBy W'' vo.ownBlock)
    (hat : vo'.ownBlock = vo.ownBlock ∨ vo'.ownBlock = some (W'.heap.size + 1)) : PIn s r m q b w σ (out ++ [x]) W'' v vo' := by
  have hmr := h.rdr.lt
  have hmw := h.mw
  have hrq := h.rq
  obtain ⟨fl2, h7, _⟩ := h.rdr.notes
  obtain ⟨fl3, h8, _⟩ := h.rows
  have hz := hg.size
  have hr1 := h.rdr.at'.lt
  obtain ⟨_, _, _, hq1, _⟩ := h.seen
  have hql := hq1.lt
  have hvoq : ∀ j, j ≤ q → some j ≠ vo.ownBlock := fun j hj e => by have := (h8.lt j e.symm).1; omega
  have hall : ∀ j, j < W.heap.size → j ≠ q → vo.ownBlock ≠ some j → W''.heap[j]? = W.heap[j]? := fun j hj h1 h2 =>
    (hg2.block j (by omega) (fun e => h2 e.symm)).trans (hg.block j hj (fun e => h1 (by injection e)))
  have hz2 := hg2.size
  refine ⟨(h.rdr.mono (Nat.le_succ b)).same (hall r hr1 (by omega) (fun e => hvoq r (by omega) e.symm)) (hall m (by omega) (by omega) (fun e => hvoq m (by omega) e.symm)) (fun j hj => hall j (h7.lt j hj).2 (fun e => h.vq (by rw [← e]; exact hj)) (fun e => h.sep j e hj)) (by omega), ?_, hmw, hrq,
    ⟨cnt + 1, _, by omega, hm.kept (hg2.block q (by omega) (hvoq q (Nat.le_refl _))), fun key => ?_⟩, ⟨_, ?_, RepRow.snoc (x := x) (hr.moved ?_ (by omega)) (hrow.imp (fun y us _ hy => hy.moved ?_ (by omega)))⟩, ?_, h.vq, fun j hj => ?_, h.names⟩
  · refine ⟨hg2.os.trans (hg.os.trans h.below.os), hg2.tape.trans (hg.tape.trans h.below.tape), hg2.output.trans (hg.output.trans h.below.output), by have := h.below.size; omega, fun k hk => ?_⟩
    have := h.below.size
    exact (hall k (by omega) (by omega) (fun e => hvoq k (by omega) e.symm)).trans (h.below.block k hk)
  · have hhas : Ent.has (out ++ [x]) key = (Ent.has out key || (x.key == key)) := by unfold Ent.has; simp
    rw [hhas]
    by_cases hk : key = x.key
    · subst hk
      simp
    · have hne : (x.key == key) = false := by simp; exact fun e => hk e.symm
      rw [hne, Bool.or_false, if_neg hk]
      exact hf key
  · rw [List.length_append]; exact hown
  · intro j hj hlt
    refine ⟨⟨hj.1, hj.2.1, ?_⟩, hall j hlt (by have := hj.1; omega) hj.2.2⟩
    rcases hat with e | e
    · rw [e]; exact hj.2.2
    · rw [e]; intro e2; injection e2 with e2; omega
  · intro j hj hlt
    refine ⟨⟨hj.1, hj.2.1, ?_⟩, hall j hlt (by have := hj.1; omega) hj.2.2⟩
    rcases hat with e | e
    · rw [e]; exact hj.2.2
    · rw [e]; intro e2; injection e2 with e2; omega
  · have := h.cnt
    rw [List.length_append]
    show out.length + 1 + σ.rest.length + b ≤ s.length
    omega
  · rcases hat with e | e
    · rw [e] at hj; exact h.sep j hj
    · rw [e] at hj; injection hj with hj
      intro e2
      have := (h7.lt j e2).2
      omega
end
end Go.Proofs.YtibinlpbcoihoaaGreatDoor
namespace Go.Proofs.YtibinlpbcoihoaaGreatDoor
open Go.RowKit
theorem u8_beq (c d : UInt8) : ((c.toNat : Int) == (d.toNat : Int)) = (c == d) := by
  rw [Bool.eq_iff_iff, beq_iff_eq, beq_iff_eq]
  constructor
  · intro h; exact UInt8.toNat_inj.1 (by omega)
  · intro h; rw [h]

theorem SliceIn.pre {α : Type} {S : Nat → Prop} {size : Nat} {R : α → List Value → Prop} {w : World} {p : Option Addr} {n cap : Nat} {xs : List α} (h : SliceIn S size R w (.slice p n cap) xs) (k : Nat) (hk : k ≤ xs.length) : SliceIn S size R w (.slice p k cap) (xs.take k) := by
  obtain ⟨p1, cap1, hv, h1, h2, h3⟩ := h
  injection hv with hp hn hc
  subst hp; subst hc
  have hlen : (xs.take k).length = k := by rw [List.length_take]; omega
  refine ⟨p, cap, by rw [hlen], by omega, h2, fun i x hi => ?_⟩
  have hik : i < k := by have := (List.getElem?_eq_some_iff.1 hi).1; omega
  rw [List.getElem?_take_of_lt hik] at hi
  exact h3 i x hi
theorem cut_textN (n : Nat) (s : List UInt8) : ∃ q : Nat, min (s.length : Int) (n : Int) = (q : Int) ∧ q ≤ s.length ∧ (q : Int) ≤ (s.length : Int) ∧ (⟨s.toArray⟩ : ByteArray).extract 0 q = ⟨(s.take n).toArray⟩ := by
  refine ⟨min s.length n, by omega, by omega, by omega, ?_⟩
  rw [extract_any]
  congr 2
  simp only [List.drop_zero, Nat.sub_zero]
  rcases Nat.le_total s.length n with h | h
  · rw [Nat.min_eq_left h, List.take_of_length_le (Nat.le_refl _), List.take_of_length_le h]
  · rw [Nat.min_eq_right h]
/-- a row of the call's own, read as a list; what an element reads as hangs on no memory -/
def OwnL {α : Type} (B : Nat) (t : TypeId) (n : Nat) (R : α → List Value → Prop) (W : World) (v : Value) (l : List α) : Prop := ∃ fl, W.ownsRow B t n v l.length fl ∧ RepRow R l fl
section
variable {α : Type} {B : Nat} {t : TypeId} {n : Nat} {R : α → List Value → Prop} {W W' : World} {v v' : Value} {l : List α}
theorem OwnL.below (h : OwnL B t n R W v l) (hb : Below W.heap.size W W') : OwnL B t n R W' v l := by
  obtain ⟨fl, h1, h2⟩ := h
  exact ⟨fl, own_below h1 hb, h2⟩
theorem OwnL.nil (B : Nat) (t : TypeId) (n : Nat) (R : α → List Value → Prop) (W : World) : OwnL B t n R W (.slice none 0 0) [] := ⟨[], ⟨by simp, .inl ⟨rfl, rfl⟩⟩, rfl⟩
theorem OwnL.made (B : Nat) (t : TypeId) (n : Nat) (R : α → List Value → Prop) (W : World) (h : B ≤ W.heap.size) : OwnL B t n R (W.alloc (.cells #[] t)) (.slice (some ⟨W.heap.size, 0, none⟩) 0 0) [] :=
  ⟨[], own_built W B t n 0 [] h (by simp) (by unfold maxLen; omega), rfl⟩
theorem OwnL.slice (h : OwnL B t n R W v l) (hsz : ∀ x vs, R x vs → vs.length = n) (S : Nat → Prop) (hS : ∀ b, B ≤ b → S b) : SliceIn S n R W v l := by
  obtain ⟨fl, h1, h2⟩ := h
  exact SliceIn.own h1 h2 hsz rfl (fun b hb => hS b (h1.lt b hb).1)
theorem OwnL.form (h : OwnL B t n R W v l) : ∃ p cap, v = .slice p l.length cap := by
  obtain ⟨fl, h1, _⟩ := h
  rcases h1.2 with ⟨h, h0⟩ | ⟨g, cap, cur, h, _⟩
  · exact ⟨none, 0, by rw [h, h0]⟩
  · exact ⟨_, _, h⟩
theorem OwnL.more {fl : List Value} {x : α} {vs : List Value} (h2 : RepRow R l fl) (hx : R x vs) (hown : W'.ownsRow B t n v' (l.length + 1) (fl ++ vs)) : OwnL B t n R W' v' (l ++ [x]) :=
  ⟨_, by rw [List.length_append]; exact hown, RepRow.snoc hx h2⟩
end
theorem SliceIn.below' {α : Type} {S : Nat → Prop} {size : Nat} {R : α → List Value → Prop} {w w' : World} {v : Value} {xs : List α} (h : SliceIn S size R w v xs) (hb : Below w.heap.size w w') : SliceIn S size R w' v xs := h.below hb (fun _ _ _ h => h)
theorem SliceIn.any {α : Type} {S : Nat → Prop} {size : Nat} {R : α → List Value → Prop} {w : World} {v : Value} {xs : List α} (h : SliceIn S size R w v xs) : SliceIn (fun _ => True) size R w v xs :=
  h.kept (fun _ _ => trivial) (Nat.le_refl _) (fun _ _ _ => rfl) (fun _ _ _ h => h)
theorem SliceIn.bound {α : Type} {S : Nat → Prop} {size : Nat} {R : α → List Value → Prop} {w : World} {v : Value} {xs : List α} (h : SliceIn S size R w v xs) : xs.length ≤ 9223372036854775807 := by
  obtain ⟨_, _, _, h1, h2, _⟩ := h
  unfold maxLen at h2; omega
end Go.Proofs.YtibinlpbcoihoaaGreatDoor
namespace Go.Proofs.YtibinlpbcoihoaaGreatDoor
open Go.RowKit

/-- the cells of the variable 'numerals' -/
def numCells : Array Value := (Cnt.numerals.flatMap fun p => [Value.int .i64 (p.1 : Int), Value.string ⟨p.2.toArray⟩]).toArray
/-- what the variable 'numerals' holds -/
def NumAt (w : World) : Prop := ∃ t fr, w.heap[(4 : Nat)]? = some (.cells numCells t fr)
theorem NumAt.below {w w' : World} (h : NumAt w) (hb : Below w.heap.size w w') : NumAt w' := by
  obtain ⟨t, fr, h⟩ := h
  exact ⟨t, fr, (hb.block _ (Array.getElem?_eq_some_iff.1 h).1).trans h⟩
end Go.Proofs.YtibinlpbcoihoaaGreatDoor
namespace Go.Proofs.YtibinlpbcoihoaaGreatDoor
open Go.RowKit

/-- what the package-level variables hold that counters' texts lean on -/
structure Laid01 (w : World) : Prop where
  num : NumAt w
  pow : Lib.TabIs Tryz.prog w "internal/strconv.uint64pow10" .u64 Lib.pow10Tab
  cas : Lib.CaseVar 5 Lib.caseA w
  utf : Lib.Utf8Tabs 2 3 w

theorem Laid01.below {w w' : World} (h : Laid01 w) (hb : Below w.heap.size w w') : Laid01 w' := by
  refine ⟨h.num.below hb, ?_, Lib.CaseVar_below h.cas hb, ?_⟩
  · have hp := h.pow
    unfold Lib.TabIs at hp ⊢
    refine var?_below hb (show Tryz.prog.globalNamed "internal/strconv.uint64pow10" = some 6 by kernel_rfl) ?_ hp
    unfold World.var? at hp
    simp only [show Tryz.prog.globalNamed "internal/strconv.uint64pow10" = some 6 by kernel_rfl, Option.bind_some] at hp
    rcases Nat.lt_or_ge 6 w.heap.size with h1 | h1
    · exact h1
    · rw [Array.getElem?_eq_none h1] at hp; simp at hp
  · obtain ⟨h1, h2⟩ := h.utf
    refine ⟨fun c hc => ?_, fun i hi => ⟨?_, ?_⟩⟩
    · have := h1 c hc; exact (hb.cell (World.block_lt_of_cell? w _ this)).trans this
    · have := (h2 i hi).1; exact (hb.cell (World.block_lt_of_cell? w _ this)).trans this
    · have := (h2 i hi).2; exact (hb.cell (World.block_lt_of_cell? w _ this)).trans this

end Go.Proofs.YtibinlpbcoihoaaGreatDoor
namespace Go.Proofs.YtibinlpbcoihoaaGreatDoor
open Go.ChangeShapes Go.WideShapes Go.RowKit
/-- the i-th cell behind an address that may have a spot -/
def cellAddr (b o : Nat) (sp : Option Nat) : Nat → Addr
  | 0 => ⟨b, o, sp⟩
  | i + 1 => ⟨b, o + (i + 1), none⟩
def OSl {α : Type} (n : Nat) (R : α → List Value → Prop) (w : World) (p : Option Addr) (l : List α) : Prop :=
  ∀ j x, l[j]? = some x → ∃ (a : Addr) (b o : Nat) (sp : Option Nat) (vs : List Value), p = some a ∧ a.add (j * n) = ⟨b, o, sp⟩ ∧ b < w.heap.size ∧ R x vs ∧ ∀ i u, vs[i]? = some u → w.cell? (cellAddr b o sp i) = some u
theorem OSl.nil {α : Type} (n : Nat) (R : α → List Value → Prop) (w : World) (p : Option Addr) : OSl n R w p [] := fun j x h => by simp at h
theorem cellAddr_block (b o : Nat) (sp : Option Nat) (i : Nat) : (cellAddr b o sp i).block = b := by cases i <;> rfl
theorem OSl.below {α : Type} {n : Nat} {R R' : α → List Value → Prop} {w w' : World} {p : Option Addr} {l : List α} (h : OSl n R w p l) (hb : Below w.heap.size w w') (hR : ∀ x vs, x ∈ l → R x vs → R' x vs) : OSl n R' w' p l := by
  intro j x hj
  obtain ⟨a, b, o, sp, vs, e1, e2, e3, e4, e5⟩ := h j x hj
  exact ⟨a, b, o, sp, vs, e1, e2, Nat.lt_of_lt_of_le e3 hb.size, hR x vs (List.mem_of_getElem? hj) e4, fun i u hi => (hb.cell (by rw [cellAddr_block]; exact e3)).trans (e5 i u hi)⟩
section
variable {P : Program} {H : Type} {enc : TypeId × Value → H} {w : World}
end
end Go.Proofs.YtibinlpbcoihoaaGreatDoor
