/- The walks of package entry's reader: an entry's fields, as they are put together. -/
import Derived.Test.YtddgdfcgjjdlcaaDoorParWc
namespace Go.Proofs.YtddgdfcgjjdlcaaDoor
open Go.RowKit

namespace Ent
theorem valueN_names : ∀ (n : Nat) (acc : List UInt8) (σ : RS), (valueN n acc σ).2.names = σ.names
  | 0, _, _ => rfl
  | n + 1, acc, σ => by
    unfold valueN
    split
    · exact part_names σ
    · split
      · rw [valueN_names n]; exact part_names σ
      · exact part_names σ
theorem valueN_len : ∀ (n : Nat) (acc : List UInt8) (σ : RS), (valueN n acc σ).2.rest.length ≤ σ.rest.length
  | 0, _, _ => Nat.le_refl _
  | n + 1, acc, σ => by
    have h1 := part_len σ
    have h2 := isL_len 35 (part σ).2.rest
    unfold valueN
    split
    · exact h1
    · split
      · refine Nat.le_trans (valueN_len n _ _) ?_
        show (isL 35 (part σ).2.rest).length ≤ _
        omega
      · show (isL 35 (part σ).2.rest).length ≤ _
        omega
theorem value_names (σ : RS) : (value σ).2.names = σ.names := valueN_names _ _ _
theorem value_len (σ : RS) : (value σ).2.rest.length ≤ σ.rest.length := valueN_len _ _ _
end Ent
theorem field_info : (Tryd.prog.info? 48).map (fun i => (i.zero, i.size, i.bytes)) = some (some (.agg #[.string ⟨#[]⟩, .string ⟨#[]⟩]), 2, 32) := by kernel_rfl
theorem leaves_tmps {P : Program} {fn : Func} {t t' : Array Value} {R : Ending → World → Prop} (h : results fn t = results fn t') : ∀ (ds : List Deferred) (u : FrameMode) (w : World), Leaves P fn t R ds u w → Leaves P fn t' R ds u w
  | [], .returning, w, ⟨v, h1, h2⟩ => ⟨v, by rw [← h]; exact h1, h2⟩
  | [], .panicking _, _, h1 => h1
  | [], .run, _, h1 => h1.elim
  | d :: ds, u, w, ⟨h1, fv, cap, f, args, h2, h3, h4⟩ => ⟨h1, fv, cap, f, args, h2, h3, h4.mono (fun e u' w' he => by
      cases e with
      | returned v => exact leaves_tmps h ds _ _ he
      | panicked c => exact leaves_tmps h ds _ _ he
      | outgrown => exact he)⟩
theorem results_put (t : Array Value) (i : Nat) (v : Value) (hi : 5 ≤ i) : results Tryd.f28 (t.setIfInBounds i v) = results Tryd.f28 t := by
  have h2 : (t.setIfInBounds i v).getD 2 undef = t.getD 2 undef := by simp [Array.getElem?_setIfInBounds, show i ≠ 2 by omega]
  have h3 : (t.setIfInBounds i v).getD 3 undef = t.getD 3 undef := by simp [Array.getElem?_setIfInBounds, show i ≠ 3 by omega]
  have h4 : (t.setIfInBounds i v).getD 4 undef = t.getD 4 undef := by simp [Array.getElem?_setIfInBounds, show i ≠ 4 by omega]
  unfold results
  rw [Tryd.results28]
  simp only [List.mapM_toArray, List.mapM_cons, List.mapM_nil, h2, h3, h4]
theorem hQ_entry {R : Ending → World → Prop} (i : Nat) (v : Value) (hi : 5 ≤ i) (c : List PanicEntry) (a : Act) (w : World) (h : bodyPostD Tryd.prog Tryd.f28 R (.panic c) (a.put (some i) v) w) :
    bodyPostD Tryd.prog Tryd.f28 R (.panic c) a w :=
  leaves_tmps (results_put a.tmps i v hi) _ _ _ h

/-- the entry written, but for what is handed back beside it -/
def put1 (w : World) (g : Nat) (k y : List UInt8) (vf : Value) : World := ((w.setCell ⟨g, 0, none⟩ (.string ⟨k.toArray⟩)).setCell ⟨g, 1, none⟩ (.string ⟨y.toArray⟩)).setCell ⟨g, 2, none⟩ vf
theorem died_put1 (w : World) (g : Nat) (k y : List UInt8) (vf : Value) : Died g w (put1 w g k y vf) where
  os := by simp only [put1, World.setCell]
  tape := by simp only [put1, World.setCell]
  output := by simp only [put1, World.setCell]
  size := by simp [put1]
  block := fun j _ h0 _ _ => by
    unfold put1
    rw [Below.heap_setCell _ _ _ _ h0, Below.heap_setCell _ _ _ _ h0, Below.heap_setCell _ _ _ _ h0]
theorem Res3.put1 {w : World} {g : Nat} {k y : List UInt8} {vf : Value} {is : Bool} {e : Int} (h : Res3 w g k y vf is e) (k' y' : List UInt8) (vf' : Value) : Res3 (put1 w g k' y' vf') g k' y' vf' is e := by
  have ot : ∀ (W : World) (a b : Addr) (v : Value), a ≠ b → (W.setCell b v).cell? a = W.cell? a := fun W a b v hne => World.cell?_setCell_other _ _ _ _ hne.symm
  unfold Go.Proofs.YtddgdfcgjjdlcaaDoor.put1
  refine ⟨?_, ?_, ?_, ?_, ?_, fun i hi => by simpa using h.fk i hi, by simpa using h.fi, by simpa using h.fe, by simpa using h.lt⟩
  · rw [ot _ _ _ _ (by simp), ot _ _ _ _ (by simp)]
    exact World.cell?_setCell_same _ _ _ h.k
  · rw [ot _ _ _ _ (by simp)]
    exact World.cell?_setCell_same _ _ _ ((ot _ _ _ _ (by simp)).trans h.y)
  · exact World.cell?_setCell_same _ _ _ (((ot _ _ _ _ (by simp)).trans (ot _ _ _ _ (by simp))).trans h.vf)
  · rw [ot _ _ _ _ (by simp), ot _ _ _ _ (by simp), ot _ _ _ _ (by simp)]
    exact h.is
  · rw [ot _ _ _ _ (by simp), ot _ _ _ _ (by simp), ot _ _ _ _ (by simp)]
    exact h.e
theorem died_put2 (w : World) (g : Nat) (vf : Value) : Died g w (w.setCell ⟨g, 2, none⟩ vf) where
  os := by simp only [World.setCell]
  tape := by simp only [World.setCell]
  output := by simp only [World.setCell]
  size := by simp
  block := fun j _ h0 _ _ => Below.heap_setCell _ _ _ _ h0
theorem Res3.put2 {w : World} {g : Nat} {k y : List UInt8} {vf : Value} {is : Bool} {e : Int} (h : Res3 w g k y vf is e) (vf' : Value) : Res3 (w.setCell ⟨g, 2, none⟩ vf') g k y vf' is e := by
  have ot : ∀ (W : World) (a b : Addr) (v : Value), a ≠ b → (W.setCell b v).cell? a = W.cell? a := fun W a b v hne => World.cell?_setCell_other _ _ _ _ hne.symm
  refine ⟨?_, ?_, ?_, ?_, ?_, fun i hi => by simpa using h.fk i hi, by simpa using h.fi, by simpa using h.fe, by simpa using h.lt⟩
  · exact (ot _ _ _ _ (by simp)).trans h.k
  · exact (ot _ _ _ _ (by simp)).trans h.y
  · exact World.cell?_setCell_same _ _ _ h.vf
  · exact (ot _ _ _ _ (by simp)).trans h.is
  · exact (ot _ _ _ _ (by simp)).trans h.e

/-- an entry of what is read of its fields -/
def wrapK (u y : List UInt8) (p : Option (List Ent.Fld) × Ent.RS) : Option (Option Ent.Ent) × Ent.RS := match p.1 with | none => (none, p.2) | some fs => (some (some ⟨u, y, fs⟩), p.2)
/-- the fields as far as they were read -/
structure FIn (w : World) (vf : Value) (fs : List Ent.Fld) (W : World) (v : Value) : Prop where
  row : ∃ fl, W.ownsRow w.heap.size 48 2 vf fs.length fl ∧ RepRow RFld fs fl
  sep : ∀ j, vf.ownBlock = some j → v.ownBlock ≠ some j ∧ w.heap.size + 2 < j
theorem FIn.nil (w W : World) (v : Value) : FIn w (.slice none 0 0) [] W v := ⟨⟨[], ⟨rfl, .inl ⟨rfl, rfl⟩⟩, rfl⟩, fun j h => by simp [Value.ownBlock] at h⟩
section
variable {s : List UInt8} {r m b : Nat} {w : World} {v0 : Value} {σ : Ent.RS} {k y : List UInt8} {vf : Value} {is : Bool} {e : Int} {W : World} {v : Value} {fs : List Ent.Fld}
theorem FIn.next (hF : FIn w vf fs W v) (hE : EIn s r m b w v0 σ k y vf is e W v) {W' : World} {v' : Value} (hS : Step r m v v' W W') : FIn w vf fs W' v' := by
  have hl := hE.lt
  have hm := hE.rdr.lt
  obtain ⟨fl, h1, h2⟩ := hF.row
  refine ⟨⟨fl, own_same h1 (fun j hj => ?_), h2⟩, fun j hj => ⟨?_, (hF.sep j hj).2⟩⟩
  · obtain ⟨h3, h4⟩ := hF.sep j hj
    exact hS.block j (h1.lt j hj).2 (by omega) (by omega) h3
  · rcases hS.own with e | ⟨g, e, hg⟩
    · rw [e]; exact (hF.sep j hj).1
    · rw [e]; intro e2; injection e2 with e2; have := (h1.lt j hj).2; omega
theorem FIn.died (hF : FIn w vf fs W v) {W' : World} (hD : Died w.heap.size W W') : FIn w vf fs W' v := by
  obtain ⟨fl, h1, h2⟩ := hF.row
  exact ⟨⟨fl, own_same h1 (fun j hj => by have := (hF.sep j hj).2; exact hD.block j (h1.lt j hj).2 (by omega) (by omega) (by omega)), h2⟩, hF.sep⟩
theorem FIn.slice (hF : FIn w vf fs W v) : SliceIn (fun j => w.heap.size ≤ j ∧ v.ownBlock ≠ some j) 2 RFld W vf fs := by
  obtain ⟨fl, h1, h2⟩ := hF.row
  exact SliceIn.own h1 h2 RFld.size rfl (fun j hj => ⟨by have := (hF.sep j hj).2; omega, (hF.sep j hj).1⟩)
/-- behind an append of a field -/
theorem EIn.appended (hE : EIn s r m b w v0 σ k y vf is e W v) (hF : FIn w vf fs W v) {W' : World} (hg : W.grownBy W' vf.ownBlock) : EIn s r m b w v0 σ k y vf is e W' v := by
  have hl := hE.lt
  have hm := hE.rdr.lt
  have hz := hE.res.lt
  have hne : ∀ j, j ≤ w.heap.size + 2 → some j ≠ vf.ownBlock := fun j hj e => by have := (hF.sep j e.symm).2; omega
  obtain ⟨fl, h1, _⟩ := hE.rdr.notes
  refine ⟨hE.rdr.same (hg.block r (by omega) (hne r (by omega))) (hg.block m (by omega) (hne m (by omega))) (fun j hj => hg.block j (h1.lt j hj).2 (fun e => (hF.sep j e.symm).1 hj)) hg.size, ?_, hE.res.same (fun j _ h2 => hg.block j (by omega) (hne j h2)) hg.size, hE.away, hl⟩
  exact ⟨hg.os.trans hE.step.os, hg.tape.trans hE.step.tape, hg.output.trans hE.step.output, Nat.le_trans hE.step.size hg.size, fun j hj h1 h2 h3 => (hg.block j (by omega) (hne j (by omega))).trans (hE.step.block j hj h1 h2 h3), hE.step.own⟩
theorem FIn.appended (hE : EIn s r m b w v0 σ k y vf is e W v) (hF : FIn w vf fs W v) {W' : World} {vf' : Value} {f : Ent.Fld} {fl : List Value} (hrep : RepRow RFld fs fl) (hown : W'.ownsRow w.heap.size 48 2 vf' (fs.length + 1) (fl ++ [.string ⟨f.name.toArray⟩, .string ⟨f.text.toArray⟩]))
    (hat : vf'.ownBlock = vf.ownBlock ∨ vf'.ownBlock = some (W.heap.size + 1)) : FIn w vf' (fs ++ [f]) W' v := by
  have hz := hE.res.lt
  refine ⟨⟨_, ?_, RepRow.snoc (x := f) rfl hrep⟩, fun j hj => ?_⟩
  · rw [List.length_append]; exact hown
  · rcases hat with e | e
    · rw [e] at hj; exact hF.sep j hj
    · rw [e] at hj
      injection hj with hj
      refine ⟨fun h => ?_, by omega⟩
      obtain ⟨fl2, h1, _⟩ := hE.rdr.notes
      have := (h1.lt j h).2
      omega
theorem FIn.form (hF : FIn w vf fs W v) : ∃ p n c, vf = .slice p n c := by
  obtain ⟨fl, h1, _⟩ := hF.row
  rcases h1.2 with ⟨h, _⟩ | ⟨g, cap, cur, h, _⟩
  · exact ⟨_, _, _, h⟩
  · exact ⟨_, _, _, h⟩
theorem FIn.below (hF : FIn w vf fs W v) {W' : World} (hb : Below W.heap.size W W') : FIn w vf fs W' v :=
  ⟨let ⟨fl, h1, h2⟩ := hF.row; ⟨fl, own_below h1 hb, h2⟩, hF.sep⟩
/-- an entry is handed back -/
theorem entry_done (hE : EIn s r m b w v0 σ k y vf is e W v) (hF : FIn w vf fs W v) (tmps : Array Value)
    (h2 : tmps[2]?.getD undef = .pointer (some ⟨w.heap.size, 0, none⟩)) (h3 : tmps[3]?.getD undef = .pointer (some ⟨w.heap.size + 1, 0, none⟩)) (h4 : tmps[4]?.getD undef = .pointer (some ⟨w.heap.size + 2, 0, none⟩))
    (o : Option (Option Ent.Ent) × Ent.RS) (ho : o = (some (some ⟨k, y, fs⟩), σ)) :
    Leaves Tryd.prog Tryd.f28 tmps (EntryPost s r m b w v0 o) (tail1 w.heap.size) .returning (put3 W w.heap.size k y vf true 0) := by
  refine entry_leaves hE tmps h2 h3 h4 k y vf true 0 o (fun w' he hb => ?_)
  subst ho
  exact ⟨_, v, rfl, he.rdr, he.step, _, rfl, vf, rfl, ((hF.died (died_put W w.heap.size k y vf true 0)).below hb).slice⟩
end
end Go.Proofs.YtddgdfcgjjdlcaaDoor
