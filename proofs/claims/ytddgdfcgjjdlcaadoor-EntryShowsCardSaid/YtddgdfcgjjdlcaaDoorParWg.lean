/- The walk of package entry's Parse: what stands in memory. -/
import Derived.Test.YtddgdfcgjjdlcaaDoorParWf
namespace Go.Proofs.YtddgdfcgjjdlcaaDoor
open Go.RowKit

theorem SliceIn.moved {α : Type} {S S' : Nat → Prop} {size : Nat} {R R' : α → List Value → Prop} {w w' : World} {v : Value} {xs : List α} (h : SliceIn S size R w v xs)
    (hs : ∀ b, S b → b < w.heap.size → S' b ∧ w'.heap[b]? = w.heap[b]?) (hz : w.heap.size ≤ w'.heap.size) (hR : ∀ x vs, x ∈ xs → R x vs → R' x vs) : SliceIn S' size R' w' v xs := by
  obtain ⟨p, cap, hv, h1, h2, h3⟩ := h
  refine ⟨p, cap, hv, h1, h2, fun i x hi => ?_⟩
  obtain ⟨b, off, vs, hp, hS, hlt, hr, hc⟩ := h3 i x hi
  exact ⟨b, off, vs, hp, (hs b hS hlt).1, Nat.lt_of_lt_of_le hlt hz, hR x vs (List.mem_of_getElem? hi) hr, fun j u hj => (World.cell?_of_block (hs b hS hlt).2).trans (hc j u hj)⟩
theorem REnt.moved {S S' : Nat → Prop} {w w' : World} {x : Ent.Ent} {vs : List Value} (h : REnt S w x vs) (hs : ∀ b, S b → b < w.heap.size → S' b ∧ w'.heap[b]? = w.heap[b]?) (hz : w.heap.size ≤ w'.heap.size) : REnt S' w' x vs := by
  obtain ⟨vf, rfl, h⟩ := h
  exact ⟨vf, rfl, h.moved hs hz (fun _ _ _ h => h)⟩
theorem IMap.run {w : World} {b n : Nat} {f : List UInt8 → Int} (h : IMap w b n f) (s : List UInt8) (hs : s.length ≤ maxLen) (c : Int) (hc : f s = c) :
    (Instr.lookup 52 (.map (some b)) (.string ⟨s.toArray⟩) false).run Tryd.prog w = .ok (.int .i64 c) w := by
  obtain ⟨D, h1, h2⟩ := h
  obtain ⟨d, hr, hat, _⟩ := h1.lookup_int skeyed Tryd.underlying52 Tryd.underlying3 (zero_int w) (skey s hs)
  rw [h2 s] at hat
  injection hat with hat
  injection hat with _ hat
  rw [hr, ← hc, hat]
/-- blocks of entries that were read -/
def OutS (q : Nat) (v vo : Value) (j : Nat) : Prop := q < j ∧ v.ownBlock ≠ some j ∧ vo.ownBlock ≠ some j
/-- the whole reading: q the block of the keys that were seen, vo what was read -/
structure PIn (s : List UInt8) (r m q b : Nat) (w : World) (σ : Ent.RS) (out : List Ent.Ent) (W : World) (v vo : Value) : Prop where
  rdr : Rdr s r m b W σ v
  below : Below w.heap.size w W
  mw : w.heap.size ≤ m
  rq : r < q
  seen : ∃ (cnt : Nat) (f : List UInt8 → Int), cnt + σ.rest.length + b ≤ s.length ∧ IMap W q cnt f ∧ ∀ key, (Ent.has out key = true → f key = 1) ∧ (Ent.has out key = false → f key = 0)
  rows : ∃ fl, W.ownsRow (q + 1) 36 3 vo out.length fl ∧ RepRow (REnt (OutS q v vo) W) out fl
  cnt : out.length + σ.rest.length + b ≤ s.length
  vq : v.ownBlock ≠ some q
  sep : ∀ j, vo.ownBlock = some j → v.ownBlock ≠ some j
  names : Ent.NamesOk σ
section
variable {s : List UInt8} {r m q b : Nat} {w : World} {σ : Ent.RS} {out : List Ent.Ent} {W : World} {v vo : Value}
/-- behind a step of the reader -/
theorem PIn.next (h : PIn s r m q b w σ out W v vo) {b' : Nat} {σ' : Ent.RS} {W' : World} {v' : Value} (hR : Rdr s r m b' W' σ' v') (hS : Step r m v v' W W') (hl : σ'.rest.length + b' ≤ σ.rest.length + b) (hN : Ent.NamesOk σ') :
    PIn s r m q b' w σ' out W' v' vo := by
  have hm := h.rdr.lt
  have hmw := h.mw
  have hrq := h.rq
  obtain ⟨cnt, f, h1, h2, h3⟩ := h.seen
  obtain ⟨fl, h4, h5⟩ := h.rows
  have hq := h2.lt
  have hcnt := h.cnt
  have hvq : v'.ownBlock ≠ some q := by
    rcases hS.own with e | ⟨g, e, hg⟩
    · rw [e]; exact h.vq
    · rw [e]; intro e2; injection e2 with e2; omega
  have hsep : ∀ j, vo.ownBlock = some j → v'.ownBlock ≠ some j := fun j hj => by
    rcases hS.own with e | ⟨g, e, hg⟩
    · rw [e]; exact h.sep j hj
    · rw [e]; intro e2; injection e2 with e2; have := (h4.lt j hj).2; omega
  refine ⟨hR, ?_, hmw, hrq, ⟨cnt, f, by omega, h2.kept (hS.block q hq (by omega) (by omega) h.vq), h3⟩, ⟨fl, own_same h4 (fun j hj => hS.block j (h4.lt j hj).2 (by have := (h4.lt j hj).1; omega) (by have := (h4.lt j hj).1; omega) (h.sep j hj)), ?_⟩, by omega, hvq, hsep, hN⟩
  · refine ⟨hS.os.trans h.below.os, hS.tape.trans h.below.tape, hS.output.trans h.below.output, Nat.le_trans h.below.size hS.size, fun k hk => ?_⟩
    have h6 := h.below.size
    refine (hS.block k (by omega) (by omega) (by omega) (fun e => ?_)).trans (h.below.block k hk)
    obtain ⟨fl2, h7, _⟩ := h.rdr.notes
    have := (h7.lt k e).1
    omega
  · refine h5.imp (fun x vs _ hx => hx.moved (fun j hj hlt => ⟨⟨hj.1, ?_, hj.2.2⟩, hS.block j hlt (by have := hj.1; omega) (by have := hj.1; omega) hj.2.1⟩) hS.size)
    rcases hS.own with e | ⟨g, e, hg⟩
    · rw [e]; exact hj.2.1
    · rw [e]; intro e2; injection e2 with e2; omega
theorem PIn.moved (h : PIn s r m q b w σ out W v vo) {W' : World} {l : List UInt8} (hM : Moved r W W') (hA : At s r W' l) {b' : Nat} (hb : l.length + b' ≤ σ.rest.length + b) : PIn s r m q b' w (σ.at l) out W' v vo :=
  h.next (h.rdr.moved hM hA hb) (hM.step m v) hb h.names
theorem PIn.belowW (h : PIn s r m q b w σ out W v vo) {W' : World} (hb : Below W.heap.size W W') : PIn s r m q b w σ out W' v vo := h.next (h.rdr.below hb) (Step.below hb r m v) (Nat.le_refl _) h.names
theorem PIn.mono (h : PIn s r m q b w σ out W v vo) {b' : Nat} (hb : b' ≤ b) : PIn s r m q b' w σ out W v vo := h.next (h.rdr.mono hb) (Step.refl r m v W) (by omega) h.names
/-- a key more that was seen, and its entry -/
theorem PIn.kept (h : PIn s r m q (b + 1) w σ out W v vo) {x : Ent.Ent} (hx : Ent.has out x.key = false) {W' : World} {f : List UInt8 → Int} {cnt : Nat} (hcnt : cnt + σ.rest.length + (b + 1) ≤ s.length)
    (hm : IMap W' q (cnt + 1) (fun t => if t = x.key then 1 else f t)) (hf : ∀ key, (Ent.has out key = true → f key = 1) ∧ (Ent.has out key = false → f key = 0)) (hg : W.grownBy W' (some q))
    {W'' : World} {vo' : Value} {fl vs : List Value} (hrow : RepRow (REnt (OutS q v vo) W) out fl) (hr : REnt (OutS q v vo) W x vs) (hown : W''.ownsRow (q + 1) 36 3 vo' (out.length + 1) (fl ++ vs)) (hg2 : W'.grownBy W'' vo.ownBlock)
    (hat : vo'.ownBlock = vo.ownBlock ∨ vo'.ownBlock = some (W'.heap.size + 1)) : PIn s r m q b w σ (out ++ [x]) W'' v vo' := by
  have hmr := h.rdr.lt
  have hmw := h.mw
  have hrq := h.rq
  obtain ⟨fl2, h7, _⟩ := h.rdr.notes
  obtain ⟨fl3, h8, _⟩ := h.rows
  have hz := hg.size
  have hr1 := h.rdr.at'.lt
  obtain ⟨_, _, _, hq1, _⟩ := h.seen
  have hql := hq1.lt
  have hvoq : ∀ j, j ≤ q → some j ≠ vo.ownBlock := fun j hj e => by have := (h8.lt j e.symm).1; omega
  have hall : ∀ j, j < W.heap.size → j ≠ q → vo.ownBlock ≠ some j → W''.heap[j]? = W.heap[j]? := fun j hj h1 h2 =>
    (hg2.block j (by omega) (fun e => h2 e.symm)).trans (hg.block j hj (fun e => h1 (by injection e)))
  have hz2 := hg2.size
  refine ⟨(h.rdr.mono (Nat.le_succ b)).same (hall r hr1 (by omega) (fun e => hvoq r (by omega) e.symm)) (hall m (by omega) (by omega) (fun e => hvoq m (by omega) e.symm)) (fun j hj => hall j (h7.lt j hj).2 (fun e => h.vq (by rw [← e]; exact hj)) (fun e => h.sep j e hj)) (by omega), ?_, hmw, hrq,
    ⟨cnt + 1, _, by omega, hm.kept (hg2.block q (by omega) (hvoq q (Nat.le_refl _))), fun key => ?_⟩, ⟨_, ?_, RepRow.snoc (x := x) (hr.moved ?_ (by omega)) (hrow.imp (fun y us _ hy => hy.moved ?_ (by omega)))⟩, ?_, h.vq, fun j hj => ?_, h.names⟩
  · refine ⟨hg2.os.trans (hg.os.trans h.below.os), hg2.tape.trans (hg.tape.trans h.below.tape), hg2.output.trans (hg.output.trans h.below.output), by have := h.below.size; omega, fun k hk => ?_⟩
    have := h.below.size
    exact (hall k (by omega) (by omega) (fun e => hvoq k (by omega) e.symm)).trans (h.below.block k hk)
  · have hhas : Ent.has (out ++ [x]) key = (Ent.has out key || (x.key == key)) := by unfold Ent.has; simp
    rw [hhas]
    by_cases hk : key = x.key
    · subst hk
      simp
    · have hne : (x.key == key) = false := by simp; exact fun e => hk e.symm
      rw [hne, Bool.or_false, if_neg hk]
      exact hf key
  · rw [List.length_append]; exact hown
  · intro j hj hlt
    refine ⟨⟨hj.1, hj.2.1, ?_⟩, hall j hlt (by have := hj.1; omega) hj.2.2⟩
    rcases hat with e | e
    · rw [e]; exact hj.2.2
    · rw [e]; intro e2; injection e2 with e2; omega
  · intro j hj hlt
    refine ⟨⟨hj.1, hj.2.1, ?_⟩, hall j hlt (by have := hj.1; omega) hj.2.2⟩
    rcases hat with e | e
    · rw [e]; exact hj.2.2
    · rw [e]; intro e2; injection e2 with e2; omega
  · have := h.cnt
    rw [List.length_append]
    show out.length + 1 + σ.rest.length + b ≤ s.length
    omega
  · rcases hat with e | e
    · rw [e] at hj; exact h.sep j hj
    · rw [e] at hj; injection hj with hj
      intro e2
      have := (h7.lt j e2).2
      omega
end
end Go.Proofs.YtddgdfcgjjdlcaaDoor
