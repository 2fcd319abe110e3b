/- The walk of label.All. -/
import Derived.Test.YtanbcokkfbidbaaGreatDoorLbWb
import Derived.Test.YtanbcokkfbidbaaGreatDoorLA
import Derived.Test.YtanbcokkfbidbaaGreatDoorCA
set_option linter.unusedSimpArgs false
set_option linter.unusedVariables false
namespace Go.Proofs.YtanbcokkfbidbaaGreatDoor
open Go.RowKit
/-- five cells of a block: a cited entry -/
structure E5 (W : World) (g : Nat) (a b c d e : Value) : Prop where
  c0 : W.cell? ⟨g, 0, none⟩ = some a
  c1 : W.cell? ⟨g, 1, none⟩ = some b
  c2 : W.cell? ⟨g, 2, none⟩ = some c
  c3 : W.cell? ⟨g, 3, none⟩ = some d
  c4 : W.cell? ⟨g, 4, none⟩ = some e
  f : ∀ i, W.frozen? ⟨g, i, none⟩ = false
  lt : g < W.heap.size
section
variable {W W' : World} {g : Nat} {a b c d e : Value}
theorem E5.new (w : World) (t : TypeId) (a b c d e : Value) : E5 (w.alloc (.cells #[a, b, c, d, e] t)) w.heap.size a b c d e := by
  have h : ∀ (i : Nat) (u : Value), #[a, b, c, d, e][i]? = some u → (w.alloc (.cells #[a, b, c, d, e] t)).cell? ⟨w.heap.size, i, none⟩ = some u := by
    intro i u hu
    rw [cell_of_row _ _ _ _ _ _ (heap_alloc_new w _)]
    exact hu
  exact ⟨h 0 _ rfl, h 1 _ rfl, h 2 _ rfl, h 3 _ rfl, h 4 _ rfl, fun i => by simp, lt_alloc w _⟩
theorem E5.below (h : E5 W g a b c d e) {B : Nat} (hb : Below B W W') (hg : g < B) : E5 W' g a b c d e :=
  ⟨(hb.cell (p := ⟨g, 0, none⟩) hg).trans h.c0, (hb.cell (p := ⟨g, 1, none⟩) hg).trans h.c1, (hb.cell (p := ⟨g, 2, none⟩) hg).trans h.c2, (hb.cell (p := ⟨g, 3, none⟩) hg).trans h.c3, (hb.cell (p := ⟨g, 4, none⟩) hg).trans h.c4,
   fun i => (World.frozen?_of_block (hb.block g hg)).trans (h.f i), Nat.lt_of_lt_of_le h.lt hb.size⟩
theorem E5.below' (h : E5 W g a b c d e) (hb : Below W.heap.size W W') : E5 W' g a b c d e := h.below hb h.lt
theorem E5.set (h : E5 W g a b c d e) (i : Nat) (v : Value) : E5 (W.setCell ⟨g, i, none⟩ v) g (if i = 0 then v else a) (if i = 1 then v else b) (if i = 2 then v else c) (if i = 3 then v else d) (if i = 4 then v else e) := by
  have key : ∀ (j : Nat) (u : Value), W.cell? ⟨g, j, none⟩ = some u → (W.setCell ⟨g, i, none⟩ v).cell? ⟨g, j, none⟩ = some (if i = j then v else u) := fun j u hu => by
    by_cases hij : i = j
    · subst hij; rw [if_pos rfl]; exact World.cell?_setCell_same _ _ _ hu
    · rw [if_neg hij]; exact (World.cell?_setCell_other _ _ _ _ (fun e => hij (by simp only [Addr.mk.injEq, and_true, true_and] at e; exact e))).trans hu
  exact ⟨key 0 _ h.c0, key 1 _ h.c1, key 2 _ h.c2, key 3 _ h.c3, key 4 _ h.c4, fun j => by simpa using h.f j, by simpa using h.lt⟩
theorem E5.all (h : E5 W g a b c d e) (a' b' c' d' e' : Value) : E5 (((((W.setCell ⟨g, 0, none⟩ a').setCell ⟨g, 1, none⟩ b').setCell ⟨g, 2, none⟩ c').setCell ⟨g, 3, none⟩ d').setCell ⟨g, 4, none⟩ e') g a' b' c' d' e' :=
  ((((h.set 0 a').set 1 b').set 2 c').set 3 d').set 4 e'
end
theorem below5 {B g : Nat} {a0 w : World} (h : Below B a0 w) (hg : B ≤ g) (a b c d e : Value) : Below B a0 (((((w.setCell ⟨g, 0, none⟩ a).setCell ⟨g, 1, none⟩ b).setCell ⟨g, 2, none⟩ c).setCell ⟨g, 3, none⟩ d).setCell ⟨g, 4, none⟩ e) :=
  ((((h.setCell (p := ⟨g, 0, none⟩) hg a).setCell (p := ⟨g, 1, none⟩) hg b).setCell (p := ⟨g, 2, none⟩) hg c).setCell (p := ⟨g, 3, none⟩) hg d).setCell (p := ⟨g, 4, none⟩) hg e
theorem cit_info : (Tryz.prog.info? 47).map (fun i => (i.zero, i.size, i.bytes)) = some (some (.agg #[.string ⟨#[]⟩, .string ⟨#[]⟩, .slice none 0 0, .string ⟨#[]⟩, .string ⟨#[]⟩]), 5, 88) := by kernel_rfl
/-- the cells of cited entries, each with its fields' slice -/
def ccells (l : List (Lb.Cited × Value)) : List Value := l.flatMap fun p => [.string ⟨p.1.ent.kind.toArray⟩, .string ⟨p.1.ent.key.toArray⟩, p.2, .string ⟨p.1.label.toArray⟩, .string ⟨p.1.text.toArray⟩]
theorem ccells_length : ∀ l : List (Lb.Cited × Value), (ccells l).length = l.length * 5
  | [] => rfl
  | f :: fs => by have := ccells_length fs; simp only [ccells, List.flatMap_cons, List.length_append, List.length_cons, List.length_nil] at this ⊢; omega
theorem ccells_snoc (l : List (Lb.Cited × Value)) (p : Lb.Cited × Value) : ccells (l ++ [p]) = ccells l ++ [.string ⟨p.1.ent.kind.toArray⟩, .string ⟨p.1.ent.key.toArray⟩, p.2, .string ⟨p.1.label.toArray⟩, .string ⟨p.1.text.toArray⟩] := by simp [ccells]
theorem ccells_at : ∀ (es : List (Lb.Cited × Value)) (j : Nat) (p : Lb.Cited × Value), es[j]? = some p → ∀ r u, ([.string ⟨p.1.ent.kind.toArray⟩, .string ⟨p.1.ent.key.toArray⟩, p.2, .string ⟨p.1.label.toArray⟩, .string ⟨p.1.text.toArray⟩] : List Value)[r]? = some u → (ccells es)[j * 5 + r]? = some u
  | [], j, p, h => by simp at h
  | f :: fs, 0, p, h => fun r u hr => by
    simp at h; subst h
    have e : ccells (f :: fs) = [.string ⟨f.1.ent.kind.toArray⟩, .string ⟨f.1.ent.key.toArray⟩, f.2, .string ⟨f.1.label.toArray⟩, .string ⟨f.1.text.toArray⟩] ++ ccells fs := rfl
    have hlt := (List.getElem?_eq_some_iff.1 hr).1
    rw [e, List.getElem?_append_left (by simpa using hlt), Nat.zero_mul, Nat.zero_add]; exact hr
  | f :: fs, j + 1, p, h => fun r u hr => by
    have h := ccells_at fs j p (by simpa using h) r u hr
    have e : ccells (f :: fs) = [.string ⟨f.1.ent.kind.toArray⟩, .string ⟨f.1.ent.key.toArray⟩, f.2, .string ⟨f.1.label.toArray⟩, .string ⟨f.1.text.toArray⟩] ++ ccells fs := rfl
    rw [e, List.getElem?_append_right (by simp; omega)]
    rw [show (j + 1) * 5 + r - [Value.string ⟨f.1.ent.kind.toArray⟩, .string ⟨f.1.ent.key.toArray⟩, f.2, .string ⟨f.1.label.toArray⟩, .string ⟨f.1.text.toArray⟩].length = j * 5 + r by simp; omega]
    exact h
/-- what All holds beside its answer -/
structure Ast (B M N : Nat) (w : World) (v vn : Value) (o : List Ent.Ent) (ns : List (Int × List UInt8)) (many used : List (List UInt8)) (W : World) : Prop where
  e : Ents (fun j => M + 2 ≤ j ∧ j < N) W v o
  n : SliceIn (fun j => B ≤ j ∧ j < M) 2 RNote W vn ns
  m : IMap W M many.length (seenN many)
  u : IMap W (M + 1) used.length (seenN used)
  b : Below B w W
  h1 : B ≤ M
  h2 : M + 2 ≤ N
  h3 : N ≤ W.heap.size
/-- the row of All's answer -/
structure Arow (M N : Nat) (vo : Value) (cs : List (Lb.Cited × Value)) (W : World) : Prop where
  r : W.ownsRow N 47 5 vo cs.length (ccells cs)
  f : ∀ p ∈ cs, SliceIn (fun j => M + 2 ≤ j ∧ j < N) 2 RFld W p.2 p.1.ent.fields
section
variable {B M N : Nat} {w W W' : World} {v vn vo : Value} {o : List Ent.Ent} {ns : List (Int × List UInt8)} {many used : List (List UInt8)} {cs : List (Lb.Cited × Value)}
theorem Ast.keep (h : Ast B M N w v vn o ns many used W) (hz : W.heap.size ≤ W'.heap.size) (hb : Below B w W') (hk : ∀ j, j < N → W'.heap[j]? = W.heap[j]?) : Ast B M N w v vn o ns many used W' :=
  ⟨Ents.kept h.e (fun _ h => h) hz (fun j hj _ => hk j hj.2), SliceIn.kept h.n (fun _ h => h) hz (fun j hj _ => hk j (by have := hj.2; have := h.h2; omega)) (fun _ _ _ h => h), h.m.kept (hk M (by have := h.h2; omega)), h.u.kept (hk (M + 1) (by have := h.h2; omega)), hb, h.h1, h.h2, Nat.le_trans h.h3 hz⟩
theorem Arow.keep (h : Arow M N vo cs W) (hz : W.heap.size ≤ W'.heap.size) (hr : W'.ownsRow N 47 5 vo cs.length (ccells cs)) (hk : ∀ j, j < N → W'.heap[j]? = W.heap[j]?) : Arow M N vo cs W' :=
  ⟨hr, fun p hp => SliceIn.kept (h.f p hp) (fun _ h => h) hz (fun j hj _ => hk j hj.2) (fun _ _ _ h => h)⟩
theorem Ast.below (h : Ast B M N w v vn o ns many used W) (hb : Below W.heap.size W W') : Ast B M N w v vn o ns many used W' :=
  h.keep hb.size (h.b.trans (hb.mono (by have := h.h1; have := h.h2; have := h.h3; omega))) (fun j hj => hb.block j (Nat.lt_of_lt_of_le hj h.h3))
theorem Arow.below (h : Arow M N vo cs W) (hN : N ≤ W.heap.size) (hb : Below W.heap.size W W') : Arow M N vo cs W' :=
  h.keep hb.size (own_below h.r hb) (fun j hj => hb.block j (Nat.lt_of_lt_of_le hj hN))
theorem cnt_snoc {W : World} {b : Nat} {seen : List (List UInt8)} {key : List UInt8} (hm : IMap W b (seen.length + 1) (fun t => if t = key then seenN seen key + 1 else seenN seen t)) : IMap W b (seen ++ [key]).length (seenN (seen ++ [key])) := by
  rw [List.length_append, List.length_singleton]
  refine hm.cong fun s => ?_
  unfold seenN
  rw [List.count_append, List.count_singleton]
  by_cases hs : s = key
  · subst hs; simp
  · rw [if_neg hs]
    have : (key == s) = false := by rw [beq_eq_false_iff_ne]; exact fun e => hs e.symm
    rw [this]; simp
theorem Ast.mapM (h : Ast B M N w v vn o ns many used W) (key : List UInt8) (hm : IMap W' M (many.length + 1) (fun t => if t = key then seenN many key + 1 else seenN many t)) (ht : W.grownBy W' (some M)) : Ast B M N w v vn o ns (many ++ [key]) used W' := by
  have ht : Turn M W W' := ht
  have hn : ∀ j, j ≠ M → j < N → W'.heap[j]? = W.heap[j]? := fun j hj hlt => ht.block j (Nat.lt_of_lt_of_le hlt h.h3) (fun e => hj (by injection e))
  exact ⟨Ents.kept h.e (fun _ h => h) ht.size (fun j hj _ => hn j (by have := hj.1; omega) hj.2), SliceIn.kept h.n (fun _ h => h) ht.size (fun j hj _ => hn j (by have := hj.2; omega) (by have := hj.2; have := h.h2; omega)) (fun _ _ _ h => h), cnt_snoc hm, h.u.kept (hn (M + 1) (by omega) (by have := h.h2; omega)), Turn.belowOf h.b ht h.h1 (by have := h.h1; have := h.h2; have := h.h3; omega), h.h1, h.h2, Nat.le_trans h.h3 ht.size⟩
theorem Ast.mapU (h : Ast B M N w v vn o ns many used W) (key : List UInt8) (hm : IMap W' (M + 1) (used.length + 1) (fun t => if t = key then seenN used key + 1 else seenN used t)) (ht : W.grownBy W' (some (M + 1))) : Ast B M N w v vn o ns many (used ++ [key]) W' := by
  have ht : Turn (M + 1) W W' := ht
  have hn : ∀ j, j ≠ M + 1 → j < N → W'.heap[j]? = W.heap[j]? := fun j hj hlt => ht.block j (Nat.lt_of_lt_of_le hlt h.h3) (fun e => hj (by injection e))
  exact ⟨Ents.kept h.e (fun _ h => h) ht.size (fun j hj _ => hn j (by have := hj.1; omega) hj.2), SliceIn.kept h.n (fun _ h => h) ht.size (fun j hj _ => hn j (by have := hj.2; omega) (by have := hj.2; have := h.h2; omega)) (fun _ _ _ h => h), h.m.kept (hn M (by omega) (by have := h.h2; omega)), cnt_snoc hm, Turn.belowOf h.b ht (by have := h.h1; omega) (by have := h.h1; have := h.h2; have := h.h3; omega), h.h1, h.h2, Nat.le_trans h.h3 ht.size⟩
theorem Arow.mapped (h : Arow M N vo cs W) {q : Nat} (hq : q = M ∨ q = M + 1) (hM : M + 2 ≤ N) (hN : N ≤ W.heap.size) (ht : W.grownBy W' (some q)) : Arow M N vo cs W' := by
  have ht : Turn q W W' := ht
  exact ⟨h.r.kept ht (by
    cases hb : vo.ownBlock with
    | none => exact .inl rfl
    | some g => exact .inr (fun e => by have := (h.r.lt g hb).1; injection e with e; omega)), fun p hp => SliceIn.kept (h.f p hp) (fun _ h => h) ht.size (fun j hj hlt => ht.block j hlt (fun e => by have := hj.1; injection e with e; omega)) (fun _ _ _ h => h)⟩
theorem Arow.app (h : Arow M N vo cs W) {c : Lb.Cited} {vf vo' : Value} (hF : SliceIn (fun j => M + 2 ≤ j ∧ j < N) 2 RFld W vf c.ent.fields) (hN : N ≤ W.heap.size)
    (hown : W'.ownsRow N 47 5 vo' (cs.length + 1) (ccells cs ++ [.string ⟨c.ent.kind.toArray⟩, .string ⟨c.ent.key.toArray⟩, vf, .string ⟨c.label.toArray⟩, .string ⟨c.text.toArray⟩])) (hg : W.grownBy W' vo.ownBlock) : Arow M N vo' (cs ++ [(c, vf)]) W' := by
  have hk : ∀ j, j < N → W'.heap[j]? = W.heap[j]? := fun j hj => hg.block j (Nat.lt_of_lt_of_le hj hN) (fun e => by have := (h.r.lt j e.symm).1; omega)
  refine ⟨by rw [List.length_append, ccells_snoc]; exact hown, fun p hp => ?_⟩
  rcases List.mem_append.1 hp with hp | hp
  · exact SliceIn.kept (h.f p hp) (fun _ h => h) hg.size (fun j hj _ => hk j hj.2) (fun _ _ _ h => h)
  · simp only [List.mem_singleton] at hp; subst hp
    exact SliceIn.kept hF (fun _ h => h) hg.size (fun j hj _ => hk j hj.2) (fun _ _ _ h => h)
theorem Ast.app (h : Ast B M N w v vn o ns many used W) (hr : Arow M N vo cs W) (hg : W.grownBy W' vo.ownBlock) : Ast B M N w v vn o ns many used W' := by
  have hk : ∀ j, j < N → W'.heap[j]? = W.heap[j]? := fun j hj => hg.block j (Nat.lt_of_lt_of_le hj h.h3) (fun e => by have := (hr.r.lt j e.symm).1; omega)
  exact h.keep hg.size (h.b.trans ⟨hg.os, hg.tape, hg.output, hg.size, fun k hkB => hk k (by have := h.h1; have := h.h2; omega)⟩) hk
end
/-- cited entries in a block, with their fields' slices -/
structure CRow (W : World) (g : Nat) (cs : List (Lb.Cited × Value)) : Prop where
  cell : ∀ (j : Nat) p, cs[j]? = some p → W.cell? ⟨g, j * 5, none⟩ = some (.string ⟨p.1.ent.kind.toArray⟩) ∧ W.cell? ⟨g, j * 5 + 1, none⟩ = some (.string ⟨p.1.ent.key.toArray⟩) ∧ W.cell? ⟨g, j * 5 + 2, none⟩ = some p.2 ∧ W.cell? ⟨g, j * 5 + 3, none⟩ = some (.string ⟨p.1.label.toArray⟩) ∧ W.cell? ⟨g, j * 5 + 4, none⟩ = some (.string ⟨p.1.text.toArray⟩)
  free : ∀ i, W.frozen? ⟨g, i, none⟩ = false
  lt : g < W.heap.size
theorem CRow.of {W : World} {N g n cap : Nat} {t : TypeId} {cs : List (Lb.Cited × Value)} (h : W.ownsRow N t 5 (.slice (some ⟨g, 0, none⟩) n cap) n (ccells cs)) (hn : cs.length = n) : CRow W g cs := by
  refine ⟨fun j p hp => ?_, fun i => World.ownsRow.frozenAt h i, (World.ownsRow.lt h g rfl).2⟩
  have hj : j < cs.length := (List.getElem?_eq_some_iff.1 hp).1
  have ha := ccells_at cs j p hp
  exact ⟨(World.ownsRow.cellAt h _ (by omega)).trans (ha 0 _ rfl), (World.ownsRow.cellAt h _ (by omega)).trans (ha 1 _ rfl), (World.ownsRow.cellAt h _ (by omega)).trans (ha 2 _ rfl), (World.ownsRow.cellAt h _ (by omega)).trans (ha 3 _ rfl), (World.ownsRow.cellAt h _ (by omega)).trans (ha 4 _ rfl)⟩
theorem CRow.block {W W' : World} {g : Nat} {cs : List (Lb.Cited × Value)} (h : CRow W g cs) (hb : W'.heap[g]? = W.heap[g]?) (hz : W.heap.size ≤ W'.heap.size) : CRow W' g cs := by
  have hc : ∀ i, W'.cell? ⟨g, i, none⟩ = W.cell? ⟨g, i, none⟩ := fun i => World.cell?_of_block (w := W) (a := ⟨g, i, none⟩) hb
  exact ⟨fun j p hp => by
    obtain ⟨a, b, c, d, e⟩ := h.cell j p hp
    exact ⟨(hc _).trans a, (hc _).trans b, (hc _).trans c, (hc _).trans d, (hc _).trans e⟩, fun i => (World.frozen?_of_block (w := W) (a := ⟨g, i, none⟩) hb).trans (h.free i), Nat.lt_of_lt_of_le h.lt hz⟩
theorem CRow.below {W W' : World} {g : Nat} {cs : List (Lb.Cited × Value)} (h : CRow W g cs) (hb : Below W.heap.size W W') : CRow W' g cs := h.block (hb.block g h.lt) hb.size
theorem CRow.label {W : World} {g : Nat} {cs : List (Lb.Cited × Value)} (h : CRow W g cs) {k : Nat} {c : Lb.Cited} {v : Value} (hx : cs[k]? = some (c, v)) (s : List UInt8) : CRow (W.setCell ⟨g, k * 5 + 3, none⟩ (.string ⟨s.toArray⟩)) g (cs.set k (⟨c.ent, s, c.text⟩, v)) := by
  have hk : k < cs.length := (List.getElem?_eq_some_iff.1 hx).1
  obtain ⟨q0, q1, q2, q3, q4⟩ := h.cell k _ hx
  have ne : ∀ i : Nat, i ≠ k * 5 + 3 → (⟨g, k * 5 + 3, none⟩ : Addr) ≠ ⟨g, i, none⟩ := fun i hiq e => hiq (by simp only [Addr.mk.injEq, and_true, true_and] at e; exact e.symm)
  have oth : ∀ i, i ≠ k * 5 + 3 → (W.setCell ⟨g, k * 5 + 3, none⟩ (.string ⟨s.toArray⟩)).cell? ⟨g, i, none⟩ = W.cell? ⟨g, i, none⟩ := fun i h0 => World.cell?_setCell_other _ _ _ _ (ne i h0)
  refine ⟨fun j r hr => ?_, fun i => by simpa using h.free i, by simpa using h.lt⟩
  by_cases hjk : j = k
  · subst hjk
    rw [List.getElem?_set_self hk] at hr
    obtain rfl := Option.some.inj hr
    exact ⟨(oth (j * 5) (by omega)).trans q0, (oth (j * 5 + 1) (by omega)).trans q1, (oth (j * 5 + 2) (by omega)).trans q2, World.cell?_setCell_same _ _ _ q3, (oth (j * 5 + 4) (by omega)).trans q4⟩
  · rw [List.getElem?_set_ne (Ne.symm hjk)] at hr
    obtain ⟨r0, r1, r2, r3, r4⟩ := h.cell j r hr
    exact ⟨(oth (j * 5) (by omega)).trans r0, (oth (j * 5 + 1) (by omega)).trans r1, (oth (j * 5 + 2) (by omega)).trans r2, (oth (j * 5 + 3) (by omega)).trans r3, (oth (j * 5 + 4) (by omega)).trans r4⟩
def RCit (S : Nat → Prop) (w : World) (c : Lb.Cited) (vs : List Value) : Prop := ∃ vf, vs = [.string ⟨c.ent.kind.toArray⟩, .string ⟨c.ent.key.toArray⟩, vf, .string ⟨c.label.toArray⟩, .string ⟨c.text.toArray⟩] ∧ SliceIn S 2 RFld w vf c.ent.fields
theorem RCit.size {S : Nat → Prop} {w : World} (c : Lb.Cited) (vs : List Value) (h : RCit S w c vs) : vs.length = 5 := by obtain ⟨vf, rfl, _⟩ := h; rfl
theorem cits_of_crow {W : World} {B g n cap : Nat} {cs : List (Lb.Cited × Value)} (h : CRow W g cs) (hn : cs.length = n) (hc : n ≤ cap) (hm : cap ≤ maxLen) (hg : B ≤ g) (hf : ∀ p ∈ cs, SliceIn (fun j => B ≤ j) 2 RFld W p.2 p.1.ent.fields) :
    SliceIn (fun j => B ≤ j) 5 (RCit (fun j => B ≤ j) W) W (.slice (some ⟨g, 0, none⟩) n cap) (cs.map (·.1)) := by
  refine ⟨some ⟨g, 0, none⟩, cap, by rw [List.length_map, hn], by rw [List.length_map, hn]; exact hc, hm, fun i x hx => ?_⟩
  rw [List.getElem?_map] at hx
  cases he : cs[i]? with
  | none => rw [he] at hx; cases hx
  | some p =>
    rw [he] at hx
    obtain rfl := Option.some.inj hx
    obtain ⟨q0, q1, q2, q3, q4⟩ := h.cell i p he
    refine ⟨g, 0, _, rfl, hg, h.lt, ⟨p.2, rfl, hf p (List.mem_of_getElem? he)⟩, fun j u hj => ?_⟩
    match j, hj with
    | 0, hj => obtain rfl := Option.some.inj hj; rw [Nat.zero_add]; exact q0
    | 1, hj => obtain rfl := Option.some.inj hj; rw [Nat.zero_add]; exact q1
    | 2, hj => obtain rfl := Option.some.inj hj; rw [Nat.zero_add]; exact q2
    | 3, hj => obtain rfl := Option.some.inj hj; rw [Nat.zero_add]; exact q3
    | 4, hj => obtain rfl := Option.some.inj hj; rw [Nat.zero_add]; exact q4
    | j + 5, hj => simp at hj
def cit0 (x : Ent.Ent) : Lb.Cited := ⟨x, Lb.letters x, Lb.textOf x⟩
/-- the answer behind k rounds of the second loop -/
def citK (style : Int) (o : List Ent.Ent) (k i : Nat) (x : Ent.Ent) : Lb.Cited := ⟨x, if i < k then Lb.tag style (o.map Lb.letters) i (Lb.letters x) else Lb.letters x, Lb.textOf x⟩
theorem tag_num (style : Int) (ls : List (List UInt8)) (i : Nat) (s : List UInt8) (h : style ≠ 1) : Lb.tag style ls i s = Cnt.text ((i : Int) + 1) 0 := by unfold Lb.tag; rw [if_pos h]
theorem tag_many (ls : List (List UInt8)) (i : Nat) (s : List UInt8) (h : 1 < ls.count s) : Lb.tag 1 ls i s = s ++ Cnt.text ((ls.take (i + 1)).count s : Nat) 3 := by unfold Lb.tag; rw [if_neg (by decide), if_pos h]
theorem tag_one (ls : List (List UInt8)) (i : Nat) (s : List UInt8) (h : ¬ 1 < ls.count s) : Lb.tag 1 ls i s = s := by unfold Lb.tag; rw [if_neg (by decide), if_neg h]
theorem citK_all (style : Int) (o : List Ent.Ent) (cs : List (Lb.Cited × Value)) (hn : cs.length = o.length) (h : ∀ i x, o[i]? = some x → ∃ v, cs[i]? = some (citK style o o.length i x, v)) : cs.map (·.1) = Lb.tagged style o := by
  apply List.ext_getElem?
  intro i
  unfold Lb.tagged
  rw [List.getElem?_map, List.getElem?_mapIdx]
  cases hx : o[i]? with
  | none =>
    have : o.length ≤ i := List.getElem?_eq_none_iff.1 hx
    rw [List.getElem?_eq_none (by omega)]; rfl
  | some x =>
    obtain ⟨v, hv⟩ := h i x hx
    have hi := (List.getElem?_eq_some_iff.1 hx).1
    rw [hv]
    simp only [Option.map_some]
    congr 1
    unfold citK; rw [if_pos hi]
end Go.Proofs.YtanbcokkfbidbaaGreatDoor
