/- The walk of index.Lines, first part: the entries, taken one by one. -/
import Derived.Test.YthoblbdkmlggbaaGreatDoorIxI
import Derived.Test.YthoblbdkmlggbaaGreatDoorIxW3
import Derived.Test.YthoblbdkmlggbaaGreatDoorIxW4
set_option linter.unusedSimpArgs false
set_option linter.unusedVariables false
namespace Go.Proofs.YthoblbdkmlggbaaGreatDoor
open Go.RowKit
attribute [local go_sem] Oper.semAt_some
namespace Ix
theorem good_snoc (l : List En) (x : En) : good (l ++ [x]) = good l ++ (if bad x = none then [x] else []) := by
  unfold good
  rw [List.filter_append]
  congr 1
  cases h : bad x <;> simp [h]
theorem pagesAt_snoc (l : List En) (x : En) (p : Pl) : pagesAt (l ++ [x]) p = pagesAt l p ++ (if bad x = none then (if cut x.1 = p then [x.2] else []) ++ (if top (cut x.1) = p then [0] else []) else []) := by
  unfold pagesAt
  rw [good_snoc, List.flatMap_append]
  congr 1
  split <;> simp
theorem notes_snoc (l : List En) (x : En) : notes (l ++ [x]) = notes l ++ (match bad x with | some e => [(e, x.1)] | none => []) := by
  unfold notes
  rw [List.filterMap_append]
  congr 1
  cases h : bad x <;> simp [h]
theorem take_snoc {α : Type} (l : List α) (k : Nat) (x : α) (h : l[k]? = some x) : l.take (k + 1) = l.take k ++ [x] := by rw [List.take_add_one, h]; rfl
theorem notes_length (l : List En) : (notes l).length ≤ l.length := List.length_filterMap_le _ _
end Ix
def REn (x : Ix.En) (vs : List Value) : Prop := vs = [.string ⟨x.1.toArray⟩, .int .i64 x.2]
theorem REn.size (x : Ix.En) (vs : List Value) (h : REn x vs) : vs.length = 2 := by rw [h]; rfl
def RNote (x : Int × List UInt8) (vs : List Value) : Prop := vs = [.int .i64 x.1, .string ⟨x.2.toArray⟩]
theorem RNote.size (x : Int × List UInt8) (vs : List Value) (h : RNote x vs) : vs.length = 2 := by rw [h]; rfl
theorem note_info : (Tryz.prog.info? 67).map (fun i => (i.zero, i.size, i.bytes)) = some (some (.agg #[.int .i64 0, .string ⟨#[]⟩]), 2, 24) := by kernel_rfl
theorem ix_places (b : Nat) (w : World) : Calls Tryz.prog 28 #[.map (some b)] w fun e w' => e = .returned (.func (.func 55) #[] #[.pointer (some ⟨w.heap.size, 0, none⟩)]) ∧ w' = w.alloc (.cells #[.map (some b)] 60) := by
  go_enter Tryz.func28, Tryz.ntmps28
  go_wp2
  go_ret
  exact ⟨rfl, rfl⟩
/-- no numbers lie there -/
def NotInt (W : World) (k : Nat) : Prop := ∀ cs fr, W.heap[k]? ≠ some (.cells cs 3 fr)
theorem NotInt.of {W : World} {k : Nat} {o : Obj} (h : W.heap[k]? = some o) (ho : ∀ cs fr, o ≠ .cells cs 3 fr) : NotInt W k := fun cs fr e => ho cs fr (Option.some.inj (h.symm.trans e))
theorem NotInt.kept {W W' : World} {k : Nat} (h : NotInt W k) (hb : W'.heap[k]? = W.heap[k]?) : NotInt W' k := fun cs fr e => h cs fr (hb ▸ e)
theorem NotInt.setCell {W : World} {k : Nat} (h : NotInt W k) (g i : Nat) (v : Value) : NotInt (W.setCell ⟨g, i, none⟩ v) k := by
  intro cs fr e
  rw [Sort.setCell_eq] at e
  have e : (W.heap.modify g _)[k]? = _ := e
  rw [Array.getElem?_modify] at e
  split at e
  · cases hk : W.heap[k]? with
    | none => rw [hk] at e; cases e
    | some o =>
      rw [hk] at e
      simp only [Option.map_some, Option.some.injEq] at e
      cases o with
      | cells c ty fr' =>
        simp only [Sort.onCells, Obj.cells.injEq] at e
        obtain ⟨_, rfl, _⟩ := e
        exact h _ _ hk
      | _ => simp [Sort.onCells] at e
  · exact h cs fr e
theorem own_at {w w' : World} {base e size n : Nat} {v : Value} {xs : List Value} (h : w.ownsRow base e size v n xs) (hb : ∀ k, v.ownBlock = some k → w'.heap[k]? = w.heap[k]?) : w'.ownsRow base e size v n xs := by
  refine ⟨h.1, ?_⟩
  rcases h.2 with ⟨hv, h0⟩ | ⟨g, cap, cur, hv, hg, hh, r⟩
  · exact .inl ⟨hv, h0⟩
  · exact .inr ⟨g, cap, cur, hv, hg, (hb g (by rw [hv]; rfl)).trans hh, r⟩
/-- a row of notes holds no numbers -/
theorem own_notInt {w : World} {base n : Nat} {v : Value} {xs : List Value} (h : w.ownsRow base 67 2 v n xs) : ∀ k, v.ownBlock = some k → NotInt w k := by
  intro k e
  rcases h.2 with ⟨hv, h0⟩ | ⟨g, cap, cur, hv, hg, hh, r⟩
  · rw [hv] at e; cases e
  · rw [hv] at e
    simp only [Value.ownBlock, Option.some.injEq] at e
    subst e
    exact NotInt.of hh (fun cs fr e => by simp at e)
theorem own_notMap {w : World} {base e size n b : Nat} {v : Value} {xs : List Value} (h : w.ownsRow base e size v n xs) {m : Nat} {f : Ix.Pl → List Int} {nb : Option Nat} {bs : Nat} (hp : PMap w b bs m f nb) : ∀ k, v.ownBlock = some k → k ≠ b := by
  intro k he e
  subst e
  obtain ⟨D, g, ⟨es, clock, hb, _⟩, _⟩ := hp
  rcases h.2 with ⟨hv, h0⟩ | ⟨g', cap, cur, hv, hg, hh, r⟩
  · rw [hv] at he; cases he
  · rw [hv] at he
    simp only [Value.ownBlock, Option.some.injEq] at he
    subst he
    rw [hh] at hb; cases hb
def badP (p : Ix.Pl) : Bool := decide (p.1 = [] ∨ (p.2.2 = true ∧ p.2.1 = []))
theorem bad_page (x : Ix.En) (h : Ix.page x.2 = false) : Ix.bad x = some 5 := by unfold Ix.bad; rw [if_neg (by rw [h]; simp)]
theorem bad_name (x : Ix.En) (h : Ix.page x.2 = true) (hb : badP (Ix.cut x.1) = true) : Ix.bad x = some 2 := by
  unfold Ix.bad
  rw [if_pos h, if_pos (of_decide_eq_true hb)]
theorem bad_none (x : Ix.En) (h : Ix.page x.2 = true) (hb : badP (Ix.cut x.1) = false) : Ix.bad x = none := by
  unfold Ix.bad
  rw [if_pos h, if_neg (of_decide_eq_false hb)]
theorem cut_len (wd : List UInt8) : (Ix.cut wd).1.length ≤ wd.length ∧ (Ix.cut wd).2.1.length ≤ wd.length := by
  have h := Ix.cut_word wd
  have h2 : wd.length = ((Ix.cut wd).1 ++ (if (Ix.cut wd).2.2 then 33 :: (Ix.cut wd).2.1 else [])).length := by rw [← h]
  rw [List.length_append] at h2
  refine ⟨by omega, ?_⟩
  cases hb : (Ix.cut wd).2.2 with
  | true => rw [hb] at h2; simp at h2; omega
  | false => rw [Ix.cut_sub wd hb]; simp
theorem wpList_append_run {P : Program} {ops : Array Oper} {rest : List Oper} {o : Oper} {a : Act} {w w' : World} {Q : Exit → Act → World → Prop} {v0 xv v' : Value} (hgd : o.guard = none) (s x : Operand) (t : TypeId)
    (ho : o.op = .call { callee := .builtin .append, args := #[s, x], argTypes := #[t, t] }) (hs : a.eval s = v0) (hx : a.eval x = xv) (hr : (Builtin.append_ #[t, t] o.type #[v0, xv]).run P w = .ok v' w')
    (h : wpList P ops Q rest (a.put o.dst v') w') : wpList P ops Q (o :: rest) a w := by
  refine wpList_plain hgd fun K hK => ?_
  unfold Oper.wp execOp
  simp only [ho, resolve, invoke, builtin, Sem.run_bind, Sem.run_pure, Result.andThen_ok, List.map_toArray, List.map_cons, List.map_nil, hs, hx, hr]
  exact hK _ _ h
theorem wpListIn_append_run {F : Fence} {nF : Nat} {P : Program} {ops : Array Oper} {rest : List Oper} {o : Oper} {a : Act} {w w' : World} {Q : Exit → Act → World → Prop} {v0 xv v' : Value} (hgd : o.guard = none) (s x : Operand) (t : TypeId)
    (ho : o.op = .call { callee := .builtin .append, args := #[s, x], argTypes := #[t, t] }) (hs : a.eval s = v0) (hx : a.eval x = xv) (hr : (Builtin.append_ #[t, t] o.type #[v0, xv]).run P w = .ok v' w')
    (h : wpListIn F nF P ops Q rest (a.put o.dst v') w') : wpListIn F nF P ops Q (o :: rest) a w := by
  refine wpListIn_plain hgd fun K hK => ?_
  unfold Oper.wpIn
  refine ⟨by simp [Oper.about, ho, resolve, Target.leads, Sem.run_pure], ?_⟩
  rw [Oper.semAt_plain F _ _ (by rw [ho]; intro c hc'; cases hc')]
  simp [execOp, ho, resolve, invoke, builtin, hs, hx, hr, Result.andThen]
  exact hK _ _ h
/-- what holds between two rounds: the lines so far -/
structure LnI (wl : World) (b B N : Nat) (l : List Ix.En) (pre : List Yd) (W : World) : Prop where
  box : ∃ ov, W.heap[B]? = some (.cells #[ov] 25 (0, 0)) ∧ OwnL N 9 1 RStr W ov (pre.map fun y => Ix.line l y.1)
  tn : Turn (fun k => k < wl.heap.size ∧ k ≠ b ∧ k ≠ B) wl W
  hN : wl.heap.size + 2 ≤ N
  hW : N ≤ W.heap.size
theorem OwnL.turn {α : Type} {B : Nat} {t : TypeId} {n : Nat} {R : α → List Value → Prop} {W W' : World} {v : Value} {l : List α} (h : OwnL B t n R W v l) (hb : ∀ k, B ≤ k → k < W.heap.size → W'.heap[k]? = W.heap[k]?) : OwnL B t n R W' v l := by
  obtain ⟨fl, h1, h2⟩ := h
  exact ⟨fl, own_at h1 (fun k e => hb k (World.ownsRow.lt h1 k e).1 (World.ownsRow.lt h1 k e).2), h2⟩
theorem LnI.turn {wl : World} {b B N : Nat} {l : List Ix.En} {pre : List Yd} {A W : World} (h : LnI wl b B N l pre A) (ht : Turn (fun k => k < A.heap.size ∧ k ≠ b) A W) (hb : b < B) (hB : B < wl.heap.size) : LnI wl b B N l pre W := by
  obtain ⟨⟨ov, h1, h2⟩, h3, h4, h5⟩ := h
  have hz := h3.size
  exact ⟨⟨ov, (ht.block B ⟨by omega, by omega⟩).trans h1, h2.turn (fun k h6 h7 => ht.block k ⟨h7, by omega⟩)⟩, h3.trans (ht.mono (fun k h => ⟨by omega, h.2.1⟩)), h4, Nat.le_trans h5 ht.size⟩
theorem LnI.put {wl : World} {b B N : Nat} {l : List Ix.En} {pre : List Yd} {A : World} (h : LnI wl b B N l pre A) (o : Obj) (hB : B < wl.heap.size) : LnI wl b B N l pre (A.putObj (wl.heap.size + 1) o) := by
  obtain ⟨⟨ov, h1, h2⟩, h3, h4, h5⟩ := h
  have hp : ∀ k, k ≠ wl.heap.size + 1 → (A.putObj (wl.heap.size + 1) o).heap[k]? = A.heap[k]? := fun k hk => World.putObj_heap_other hk
  exact ⟨⟨ov, (hp B (by omega)).trans h1, h2.turn (fun k h6 h7 => hp k (by omega))⟩, h3.trans (Turn.put _ _ _ (fun k h => by omega)), h4, Nat.le_trans h5 (grownBy_putObj' A _ o).size⟩
theorem eg_places : ∀ args w, (callFunc 55 args).run Tryz.prog w = .ok (.enter 55 args) w := enters_of Tryz.func55 (by kernel_rfl) rfl
theorem box_set {W : World} {B : Nat} {ov v : Value} {t : TypeId} (h : W.heap[B]? = some (.cells #[ov] t (0, 0))) : (W.setCell ⟨B, 0, none⟩ v).heap[B]? = some (.cells #[v] t (0, 0)) ∧ ∀ k, k ≠ B → (W.setCell ⟨B, 0, none⟩ v).heap[k]? = W.heap[k]? := by
  rw [Sort.setCell_eq]
  refine ⟨?_, fun k hk => ?_⟩
  · show (W.heap.modify B _)[B]? = _
    rw [Array.getElem?_modify, if_pos rfl, h]
    rfl
  · show (W.heap.modify B _)[k]? = _
    rw [Array.getElem?_modify, if_neg (fun e => hk e.symm)]
namespace Ix
theorem has_iff (l : List En) (p : Pl) : has l p ↔ pagesAt l p ≠ [] := by
  unfold has pagesAt
  constructor
  · rintro ⟨x, hx, h⟩ e
    rw [List.flatMap_eq_nil_iff] at e
    have := e x hx
    rcases h with h | h
    · rw [if_pos h] at this; simp at this
    · rw [if_pos h] at this; simp at this
  · intro h
    obtain ⟨n, hn⟩ := List.exists_mem_of_ne_nil _ h
    obtain ⟨x, hx, hn⟩ := List.mem_flatMap.1 hn
    refine ⟨x, hx, ?_⟩
    rcases List.mem_append.1 hn with hn | hn
    · left
      split at hn
      · assumption
      · simp at hn
    · right
      split at hn
      · assumption
      · simp at hn
theorem pagesAt_length : ∀ (l : List En) (p : Pl), (pagesAt l p).length ≤ 2 * l.length := by
  intro l p
  have h1 : (good l).length ≤ l.length := List.length_filter_le _ _
  have h2 : ∀ q : List En, (q.flatMap fun x => (if cut x.1 = p then [x.2] else []) ++ (if top (cut x.1) = p then [0] else [])).length ≤ 2 * q.length := by
    intro q
    induction q with
    | nil => simp
    | cons a r ih =>
      rw [List.flatMap_cons, List.length_append, List.length_append, List.length_cons]
      have e1 : (if cut a.1 = p then [a.2] else []).length ≤ 1 := by split <;> simp
      have e2 : (if top (cut a.1) = p then [(0 : Int)] else []).length ≤ 1 := by split <;> simp
      omega
  have := h2 (good l)
  unfold pagesAt
  omega
theorem text_length (l : List Int) : (text l).length ≤ 15 * l.length := by
  unfold text
  have h1 := join_length 13 (parts (rising [] l)) (parts_len13 _ _)
  have h2 := partsGo_length (rising [] l).length (rising [] l)
  have h3 := rising_length l []
  have h4 : (parts (rising [] l)).length ≤ l.length := by
    unfold parts
    simp at h3
    omega
  have : (13 + 2) * (parts (rising [] l)).length ≤ 15 * l.length := Nat.mul_le_mul_left 15 h4
  omega
end Ix
theorem b32 : (⟨#[32]⟩ : ByteArray) = ⟨[32].toArray⟩ := rfl
theorem b3232 : (⟨#[32, 32]⟩ : ByteArray) = ⟨[32, 32].toArray⟩ := rfl
theorem Ix.bd_places (l : List Ix.En) (hw : ∀ x ∈ l, x.1.length ≤ 10000) (p : Ix.Pl) (h : p ∈ Ix.places l) : Bd p := by
  rw [Ix.mem_places] at h
  obtain ⟨x, hx, hc⟩ := h
  have hxl : x ∈ l := (List.mem_filter.1 hx).1
  have h1 := cut_len x.1
  have h2 := hw x hxl
  rcases hc with hc | hc
  · rw [← hc]; exact ⟨by unfold maxLen; omega, by unfold maxLen; omega⟩
  · rw [← hc]; exact ⟨by show (Ix.cut x.1).1.length ≤ maxLen; unfold maxLen; omega, by show ([] : List UInt8).length ≤ maxLen; simp⟩
theorem Ix.len_places (l : List Ix.En) (hw : ∀ x ∈ l, x.1.length ≤ 10000) (p : Ix.Pl) (h : p ∈ Ix.places l) : p.1.length ≤ 10000 ∧ p.2.1.length ≤ 10000 := by
  rw [Ix.mem_places] at h
  obtain ⟨x, hx, hc⟩ := h
  have hxl : x ∈ l := (List.mem_filter.1 hx).1
  have h1 := cut_len x.1
  have h2 := hw x hxl
  rcases hc with hc | hc
  · rw [← hc]; omega
  · rw [← hc]
    refine ⟨?_, ?_⟩
    · show (Ix.cut x.1).1.length ≤ 10000; omega
    · show ([] : List UInt8).length ≤ 10000; simp
theorem nodup_le {α : Type} [DecidableEq α] : ∀ {l m : List α}, l.Nodup → l ⊆ m → l.length ≤ m.length
  | [], _, _, _ => Nat.zero_le _
  | a :: r, m, hn, hs => by
    rw [List.nodup_cons] at hn
    have ha : a ∈ m := hs (List.mem_cons_self ..)
    have h1 : r ⊆ m.erase a := fun x hx => (List.mem_erase_of_ne (fun e => hn.1 (by rw [← e]; exact hx))).2 (hs (List.mem_cons_of_mem _ hx))
    have h2 := nodup_le hn.2 h1
    have h3 := List.length_erase_of_mem ha
    have h4 := List.length_pos_of_mem ha
    rw [List.length_cons]
    omega
theorem Ix.places_le (l : List Ix.En) : (Ix.places l).length ≤ 2 * l.length := by
  have hn : (Ix.places l).Nodup := Ix.Up.nodup Ix.ordP (Ix.places_up l)
  have hs : Ix.places l ⊆ (Ix.good l).flatMap fun x => [Ix.cut x.1, Ix.top (Ix.cut x.1)] := by
    intro p hp
    rw [Ix.mem_places] at hp
    obtain ⟨x, hx, hc⟩ := hp
    rw [List.mem_flatMap]
    refine ⟨x, hx, ?_⟩
    rcases hc with hc | hc <;> simp [hc]
  have h1 := nodup_le hn hs
  have h2 : ∀ q : List Ix.En, (q.flatMap fun x => [Ix.cut x.1, Ix.top (Ix.cut x.1)]).length = 2 * q.length := by
    intro q
    induction q with
    | nil => rfl
    | cons a r ih => rw [List.flatMap_cons, List.length_append, ih, List.length_cons]; simp; omega
  rw [h2] at h1
  have h3 : (Ix.good l).length ≤ l.length := List.length_filter_le _ _
  omega
theorem OwnL.lower {α : Type} {B B' : Nat} {t : TypeId} {n : Nat} {R : α → List Value → Prop} {W : World} {v : Value} {l : List α} (h : OwnL B t n R W v l) (hb : B' ≤ B) : OwnL B' t n R W v l := by
  obtain ⟨fl, ⟨h0, h1⟩, h2⟩ := h
  refine ⟨fl, ⟨h0, ?_⟩, h2⟩
  rcases h1 with h1 | ⟨g, cap, cur, hv, hg, r⟩
  · exact .inl h1
  · exact .inr ⟨g, cap, cur, hv, Nat.le_trans hb hg, r⟩
theorem ln_step {wl : World} {b B N : Nat} {l : List Ix.En} {pre : List Yd} {W2 w6 : World} (hI : LnI wl b B N l pre W2) (hb6 : Below W2.heap.size W2 w6) (y : Yd) (hlen : pre.length + 1 ≤ 1000000) (hB : B < wl.heap.size) :
    ∃ ov v' w7 u pv nv' cv, v' = .slice pv nv' cv ∧ w6.cell? ⟨B, 0, none⟩ = some ov ∧ (Builtin.append_ #[25, 25] 25 #[ov, .slice (some ⟨w6.heap.size, 0, none⟩) 1 1]).run Tryz.prog (w6.alloc (.cells #[.string ⟨(Ix.line l y.1).toArray⟩] 9)) = .ok v' w7 ∧ w7.cell? ⟨B, 0, none⟩ = some u ∧ (∀ i, w7.frozen? ⟨B, i, none⟩ = false) ∧
      LnI wl b B N l (pre ++ [y]) (w7.setCell ⟨B, 0, none⟩ v') ∧ Turn (fun k => k < N ∧ ¬ k = B) W2 (w7.setCell ⟨B, 0, none⟩ v') := by
  obtain ⟨⟨ov, h1, fl, h2, h3⟩, htn, hN, hW⟩ := hI
  obtain ⟨i0, hi, hz0, hz1, hz2⟩ := info_parts str_info
  have hzW := htn.size
  have hz6 := hb6.size
  have hBW : B < W2.heap.size := by omega
  have h6 := (hb6.block B hBW).trans h1
  have hb8 := below_new w6 (.cells #[.string ⟨(Ix.line l y.1).toArray⟩] 9)
  have h8 := (hb8.block B (by omega)).trans h6
  have hlt := World.ownsRow.lt h2
  have hown8 := own_at h2 (w' := w6.alloc (.cells #[.string ⟨(Ix.line l y.1).toArray⟩] 9)) (fun k e => (hb8.block k (by have := (hlt k e).2; omega)).trans (hb6.block k (hlt k e).2))
  obtain ⟨v', w7, hr, hown7, hg, _, hloc⟩ := run_append_own_at (P := Tryz.prog) _ N 25 25 9 i0 (.string ⟨#[]⟩) 1 16 Tryz.underlying25 hi hz0 hz1 hz2 rfl (by decide) ov _ fl hown8 ⟨w6.heap.size, 0, none⟩ 1 1 [.string ⟨(Ix.line l y.1).toArray⟩] rfl (fun j u hj => by
    match j, hj with
    | 0, hj =>
      simp only [List.getElem?_cons_zero, Option.some.injEq] at hj
      subst hj
      rw [Addr.add_lit, cell_of_row _ _ _ _ _ _ (heap_alloc_new w6 _)]
      rfl) (by simp [Value.oneCell']) (by rw [List.length_map]; unfold maxLen; omega) (by rw [List.length_map]; omega) (by have := hb8.size; omega)
  have hnB : ∀ k, ov.ownBlock = some k → k ≠ B := fun k e => by have := (hlt k e).1; omega
  have hnS : some B ≠ ov.ownBlock := fun e => hnB B e.symm rfl
  have h7 := (hg.block B (by have := hb8.size; omega) hnS).trans h8
  have hs := box_set (v := v') h7
  have hbs : Below 0 w7 (w7.setCell ⟨B, 0, none⟩ v') := (Below.refl 0 w7).setCell (p := ⟨B, 0, none⟩) (Nat.zero_le _) v'
  have hz7 := hg.size
  have hz8 := hb8.size
  have hzs := hbs.size
  have htS : Turn (fun k => k ≠ B) w7 (w7.setCell ⟨B, 0, none⟩ v') := ⟨hbs.os, hbs.tape, hbs.output, hbs.size, fun k hk => hs.2 k hk⟩
  have hgt : Turn (fun k => k < W2.heap.size ∧ some k ≠ ov.ownBlock) (w6.alloc (.cells #[.string ⟨(Ix.line l y.1).toArray⟩] 9)) w7 := Turn.of_grown hg (fun k h => ⟨by omega, h.2⟩)
  have hall : Turn (fun k => k < N ∧ ¬ k = B) W2 (w7.setCell ⟨B, 0, none⟩ v') := (((Turn.of_below hb6 (fun k (h : k < N ∧ ¬ k = B) => by omega)).trans (Turn.of_below hb8 (fun k h => by omega))).trans (hgt.mono (fun k h => ⟨by omega, fun e => by have := (hlt k e.symm).1; omega⟩))).trans (htS.mono (fun k h => h.2))
  obtain ⟨pv, cv, hv', _⟩ := World.ownsRow.form hown7 (Nat.succ_pos _)
  refine ⟨ov, v', w7, ov, _, _, cv, hv', ?_, hr, ?_, ?_, ⟨⟨v', hs.1, ?_⟩, htn.trans (hall.mono (fun k h => ⟨by omega, h.2.2⟩)), hN, by omega⟩, hall⟩
  · rw [cell_of_row _ _ 0 _ _ _ h6]; rfl
  · rw [cell_of_row _ _ 0 _ _ _ h7]; rfl
  · intro i; simp [World.frozen?, h7]
  · rw [List.map_append, List.map_cons, List.map_nil]
    refine ⟨_, ?_, RepRow.snoc (R := RStr) (x := Ix.line l y.1) (vs := [.string ⟨(Ix.line l y.1).toArray⟩]) rfl h3⟩
    rw [List.length_append]
    refine own_at hown7 (fun k e => hs.2 k ?_)
    have := (World.ownsRow.lt hown7 k e).1
    omega
/-- what is known between two entries -/
structure LnAt (w wr : World) (l : List Ix.En) (k : Nat) (nv : Value) : Prop where
  mp : PMap wr w.heap.size (w.heap.size + 1) (2 * k) (fun p => Ix.pagesAt (l.take k) p) none
  nt : OwnL w.heap.size 67 2 RNote wr nv (Ix.notes (l.take k))
  bl : Below w.heap.size w wr
set_option maxRecDepth 100000 in
set_option maxHeartbeats 3200000 in
theorem ix_Lines (l : List Ix.En) (v : Value) (S : Nat → Prop) (w : World) (hS : SliceIn S 2 REn w v l) (hl : l.length ≤ 10000) (hw : ∀ x ∈ l, x.1.length ≤ 10000) (hL : Laid01 w) :
    Calls Tryz.prog 10 #[v] w fun e w' => ∃ va vn, e = .returned (.tuple #[va, vn]) ∧ OwnL w.heap.size 9 1 RStr w' va (Ix.lines l) ∧ OwnL w.heap.size 67 2 RNote w' vn (Ix.notes l) ∧ Below w.heap.size w w' := by
  obtain ⟨i0, hi, hz0, hz1, hz2⟩ := info_parts note_info
  have Hi := Lib.hid hi; have Hz0 := Lib.hid hz0; have Hz1 := Lib.hid hz1; have Hz2 := Lib.hid hz2; clear hi hz0 hz1 hz2
  obtain ⟨pa, cap, rfl, hle, hm, hat⟩ := hS
  have Hat := Lib.hid hat; have Hl := Lib.hid hl; have Hw := Lib.hid hw; have HL := Lib.hid hL
  clear hat hl hw hL hle hm
  refine callsIn_wide.1 (callsIn_of_wp_marks (n := 3) Tryz.func10 rfl trivial ?_ rfl)
  refine wpIn_wide.2 ?_
  simp only [Tryz.ntmps10, List.size_toArray, List.length_cons, List.length_nil, Nat.reduceAdd, Nat.reduceSub, Array.replicate_succ, Array.replicate_zero, List.push_toArray, List.append_toArray, List.nil_append, List.cons_append]
  have hmm := @run_makeMap Tryz.prog
  go_wp2_with fail
  have hb1 := below_new w (.map #[] 0)
  have hp0 := PMap.made w none
  have Hb1 := Lib.hid hb1; have Hp0 := Lib.hid hp0
  clear hb1 hp0
  go_loopw [5, 18] (fun nv iv wr => ∃ k : Nat, k ≤ l.length ∧ iv = .int .i64 (k : Int) ∧ LnAt w wr l k nv) (fun _ iv _ => l.length - (intOf iv).toNat)
  case atStart => exact ⟨0, Nat.zero_le _, rfl, Hp0.out, OwnL.nil _ _ _ _ _, Hb1.out⟩
  case round =>
    clear Hb1 Hp0 hmm
    obtain ⟨k, hk, rfl, hA⟩ := hrel
    obtain ⟨pn, cn, hnv⟩ := hA.nt.form
    subst hnv
    have HA := Lib.hid hA; clear hA
    by_cases hlt : k < l.length
    · obtain ⟨x, hx⟩ : ∃ x, l[k]? = some x := ⟨_, List.getElem?_eq_getElem hlt⟩
      have hxw := Hw.out x (List.mem_of_getElem? hx)
      obtain ⟨b', off, vs, rfl, _, hbw, hR, hc⟩ := Hat.out k x hx
      have hR : vs = _ := hR
      subst hR
      obtain ⟨wd, pg⟩ := x
      simp only at hxw hc
      have e0 : wr.cell? ⟨b', off + k * 2, none⟩ = some (.string ⟨wd.toArray⟩) := (HA.out.bl.cell (p := ⟨b', off + k * 2, none⟩) hbw).trans (hc 0 _ rfl)
      have e1 : wr.cell? ⟨b', off + k * 2 + 1, none⟩ = some (.int .i64 pg) := (HA.out.bl.cell (p := ⟨b', off + k * 2 + 1, none⟩) hbw).trans (hc 1 _ rfl)
      have hlt' : (k : Int) < (l.length : Int) := by omega
      obtain ⟨k1, hk1⟩ : ∃ k1, k1 = k + 1 := ⟨_, rfl⟩
      have hwk : IntKind.i64.wrap ((k : Int) + 1) = (k1 : Int) := by rw [IntWalk.i64_in _ (by have := Hl.out; omega)]; omega
      have hwr : w.heap.size < wr.heap.size := HA.out.mp.lt
      obtain ⟨W5, hW5⟩ : ∃ W, W = (wr.alloc (.cells #[.string ⟨wd.toArray⟩, .int .i64 pg] 38)).alloc (.cells #[.string ⟨#[]⟩, .string ⟨#[]⟩, .bool false] 62) := ⟨_, rfl⟩
      have hz4 : (wr.alloc (.cells #[.string ⟨wd.toArray⟩, .int .i64 pg] 38)).heap.size = wr.heap.size + 1 := by simp
      have hb4 := below_new wr (.cells #[.string ⟨wd.toArray⟩, .int .i64 pg] 38)
      have hb45 := below_new (wr.alloc (.cells #[.string ⟨wd.toArray⟩, .int .i64 pg] 38)) (.cells #[.string ⟨#[]⟩, .string ⟨#[]⟩, .bool false] 62)
      have hx5 := E3.new (wr.alloc (.cells #[.string ⟨wd.toArray⟩, .int .i64 pg] 38)) 62 (.string ⟨#[]⟩) (.string ⟨#[]⟩) (.bool false)
      have hh5 := heap_alloc_new (wr.alloc (.cells #[.string ⟨wd.toArray⟩, .int .i64 pg] 38)) (.cells #[.string ⟨#[]⟩, .string ⟨#[]⟩, .bool false] 62)
      have hh4 := (hb45.block wr.heap.size (by rw [hz4]; omega)).trans (heap_alloc_new wr (.cells #[.string ⟨wd.toArray⟩, .int .i64 pg] 38))
      have hz5 : ((wr.alloc (.cells #[.string ⟨wd.toArray⟩, .int .i64 pg] 38)).alloc (.cells #[.string ⟨#[]⟩, .string ⟨#[]⟩, .bool false] 62)).heap.size = wr.heap.size + 2 := by simp
      have hb5 := bseq hb4 hb45
      rw [← hW5] at hb5 hx5 hh5 hh4 hz5
      rw [hz4] at hx5 hh5
      obtain ⟨g7, hg7⟩ : ∃ g, g = wr.heap.size := ⟨_, rfl⟩
      have hc70 : W5.cell? ⟨g7, 0, none⟩ = some (.string ⟨wd.toArray⟩) := by rw [hg7]; exact cell_of_row _ _ 0 _ _ _ hh4
      have hc71 : W5.cell? ⟨g7, 1, none⟩ = some (.int .i64 pg) := by rw [hg7]; exact cell_of_row _ _ 1 _ _ _ hh4
      rw [← hg7] at hh4 hx5 hh5
      have HW5 := Lib.hid hW5; have Hb5 := Lib.hid hb5; have Hx5 := Lib.hid hx5; have Hh5 := Lib.hid hh5; have Hh4 := Lib.hid hh4; have Hz5 := Lib.hid hz5; have Hg7 := Lib.hid hg7; have Hx := Lib.hid hx; have Hxw := Lib.hid hxw; have Hlt := Lib.hid hlt; have Hk1 := Lib.hid hk1; have Hwr := Lib.hid hwr
      clear hW5 hb5 hx5 hh5 hh4 hz5 hb4 hb45 hz4 hx hxw hlt hk1 hwr hbw hc hk
      go_upto_region 7 with fail
      rw [← HW5.out, ← hg7]
      obtain ⟨p, hp⟩ : ∃ p, p = Ix.cut wd := ⟨_, rfl⟩
      obtain ⟨m, s, is⟩ := p
      have Hp := Lib.hid hp
      clear hp hg7
      go_upto_region 11 with (go_at_call 26; refine (std_cut wd _ (by have := Hxw.out; omega)).mono ?_; rw [← Hp.out]; unfold cutV; rintro e w6 ⟨rfl, hb6⟩; have hx6 := Hx5.out.below' hb6; have q0 := hx6.c0; have q1 := hx6.c1; have q2 := hx6.c2; have qf := hx6.f; have Hb6 := Lib.hid hb6; have Hx6 := Lib.hid hx6; clear hb6 hx6)
      obtain ⟨W7, hW7⟩ : ∃ W, W = ((w6.setCell ⟨g7 + 1, 0, none⟩ (.string ⟨m.toArray⟩)).setCell ⟨g7 + 1, 1, none⟩ (.string ⟨s.toArray⟩)).setCell ⟨g7 + 1, 2, none⟩ (.bool is) := ⟨_, rfl⟩
      rw [← hW7]
      have hx7 : E3 W7 (g7 + 1) (.string ⟨m.toArray⟩) (.string ⟨s.toArray⟩) (.bool is) := by rw [hW7]; exact Hx6.out.all _ _ _
      have hg75 : g7 + 1 < W5.heap.size := by have := Hz5.out; have := Hg7.out; omega
      have hb57 : Below (g7 + 1) W5 W7 := by rw [hW7]; exact below3 (Hb6.out.mono (Nat.le_of_lt hg75)) (Nat.le_refl _) _ _ _
      have hb7 : Below wr.heap.size wr W7 := Hb5.out.trans (hb57.mono (by have := Hg7.out; omega))
      have n8 : NotInt W7 (g7 + 1) := by
        rw [hW7]
        refine NotInt.setCell (NotInt.setCell (NotInt.setCell ?_ _ _ _) _ _ _) _ _ _
        exact NotInt.of ((Hb6.out.block _ hg75).trans Hh5.out) (fun cs fr e => by simp at e)
      have n7 : NotInt W7 g7 := NotInt.of ((hb57.block g7 (Nat.lt_succ_self _)).trans Hh4.out) (fun cs fr e => by simp at e)
      have hz7 : g7 + 2 ≤ W7.heap.size := by have := hb57.size; omega
      have d0 := (hb57.cell (p := ⟨g7, 0, none⟩) (Nat.lt_succ_self _)).trans hc70
      have d1 := (hb57.cell (p := ⟨g7, 1, none⟩) (Nat.lt_succ_self _)).trans hc71
      have mp7 := HA.out.mp.below hb7
      have nt7 := HA.out.nt.below hb7
      have bl7 := HA.out.bl.trans (hb7.mono (Nat.le_of_lt Hwr.out))
      have hlen : m.length ≤ 10000 ∧ s.length ≤ 10000 := by
        have h1 := cut_len wd
        rw [← Hp.out] at h1
        have := Hxw.out
        simp only at h1
        omega
      obtain ⟨fl, hown, hrep⟩ := nt7
      have hnl : (Ix.notes (l.take k)).length ≤ 10000 := by
        have h1 := Ix.notes_length (l.take k)
        have h2 := Hl.out
        have h3 : (l.take k).length ≤ l.length := by rw [List.length_take]; omega
        omega
      have h0W : w.heap.size ≤ W7.heap.size := by have := bl7.size; omega
      have r0 := hx7.c0; have r1 := hx7.c1; have r2 := hx7.c2
      have Hx7 := Lib.hid hx7; have Hb7 := Lib.hid hb7; have N8 := Lib.hid n8; have N7 := Lib.hid n7; have Hz7 := Lib.hid hz7; have Hmp := Lib.hid mp7; have Hbl := Lib.hid bl7; have Hlen := Lib.hid hlen; have Hown := Lib.hid hown; have Hrep := Lib.hid hrep; have H0W := Lib.hid h0W
      have Hnm := Lib.hid (show (Ix.notes (l.take k)).length + 1 ≤ maxLen by unfold maxLen; omega)
      have Hn47 := Lib.hid (show ((Ix.notes (l.take k)).length + 1) * 24 ≤ 140737488355328 by omega)
      clear hx7 hb57 hb7 n8 n7 hz7 mp7 bl7 hlen hown hrep hnl h0W hg75 hW7 q0 q1 q2 qf hc70 hc71 e0 e1 Hb6 Hx6 Hx5 Hh5 Hh4 Hb5 HW5
      have htk := Ix.take_snoc l k (wd, pg) Hx.out
      rw [← Hk1.out] at htk
      have Htk := Lib.hid htk; clear htk
      by_cases hpg : Ix.page pg = true
      · have Hpg := Lib.hid hpg; clear hpg
        go_upto_region 13 with (go_at_call 27; refine (ix_page pg _).mono ?_; rw [Hpg.out]; rintro e w8 ⟨rfl, hw⟩; have hw := hw.symm; subst hw)
        go_cut [62] from 19 to 81 (fun v W => v = .bool (badP (m, s, is)) ∧ W = W7)
        case first =>
          cases m with
          | nil =>
            have hb : badP ([], s, is) = true := by simp [badP]
            have Hb := Lib.hid hb; clear hb
            go_wp2_with fail
            go_meet
            exact ⟨by rw [Hb.out], rfl⟩
          | cons mc mr =>
            have hm1 : (mc :: mr).isEmpty = false := rfl
            cases is with
            | false =>
              have hb : badP (mc :: mr, s, false) = false := by simp [badP]
              have Hb := Lib.hid hb; clear hb
              go_wp2_with fail
              go_meet
              exact ⟨by rw [Hb.out], rfl⟩
            | true =>
              cases s with
              | nil =>
                have hb : badP (mc :: mr, [], true) = true := by simp [badP]
                have Hb := Lib.hid hb; clear hb
                go_wp2_with fail
                go_meet
                exact ⟨by rw [Hb.out], rfl⟩
              | cons sc sr =>
                have hb : badP (mc :: mr, sc :: sr, true) = false := by simp [badP]
                have Hb := Lib.hid hb; clear hb
                go_wp2_with fail
                go_meet
                exact ⟨by rw [Hb.out], rfl⟩
        case rest =>
          obtain ⟨hv, hw7⟩ := hcut
          have hw7 := hw7.symm
          subst hw7
          subst hv
          cases hbp : badP (m, s, is) with
          | true =>
            have hbd := bad_name (wd, pg) Hpg.out (by show badP (Ix.cut wd) = true; rw [← Hp.out]; exact hbp)
            have Hbd := Lib.hid hbd; clear hbd hbp
            go_wp2_with (at_builtin; go_loud (refine wpList_append1 rfl (.tmp 75) (.tmp 79) 26 rfl w.heap.size 67 i0 (.agg #[.int .i64 0, .string ⟨#[]⟩]) 2 24 Tryz.underlying26 Hi.out Hz0.out Hz1.out Hz2.out rfl (by decide) _ _ _ Hown.out rfl [.int .i64 2, .string ⟨wd.toArray⟩] rfl (by simp) rfl (by simp [Value.oneCell']) Hnm.out Hn47.out H0W.out ?_); intro v2 w9 own2 g2 at2; obtain ⟨p2, cap2, hv2, _⟩ := own2.form (Nat.succ_pos _); subst hv2)
            go_roundw
            case rel =>
              refine ⟨k1, by have := Hlt.out; have := Hk1.out; omega, rfl, ⟨?_, ?_, ?_⟩⟩
              · have h1 := Hmp.out.keptT g2 (fun q e => ⟨own_notMap Hown.out Hmp.out q e, own_notInt Hown.out q e⟩)
                have h2 : (fun p => Ix.pagesAt (l.take k1) p) = fun p => Ix.pagesAt (l.take k) p := by
                  funext q
                  rw [Htk.out, Ix.pagesAt_snoc, Hbd.out]
                  simp
                rw [h2]
                exact h1.mono (by have := Hk1.out; omega)
              · rw [Htk.out, Ix.notes_snoc, Hbd.out]
                exact ⟨_, by rw [List.length_append]; exact own2, RepRow.snoc (R := RNote) (x := ((2 : Int), wd)) (vs := [.int .i64 2, .string ⟨wd.toArray⟩]) rfl Hrep.out⟩
              · exact Hbl.out.grown g2 H0W.out (fun q e => (World.ownsRow.lt Hown.out q e).1)
            case measure => have := Hlt.out; have := Hk1.out; simp [intOf]; omega
          | false =>
            have hbd := bad_none (wd, pg) Hpg.out (by show badP (Ix.cut wd) = false; rw [← Hp.out]; exact hbp)
            have hbm : Bd (m, s, is) := ⟨by show m.length ≤ maxLen; have := Hlen.out.1; unfold maxLen; omega, by show s.length ≤ maxLen; have := Hlen.out.2; unfold maxLen; omega⟩
            have hbt : Bd (m, [], false) := ⟨by show m.length ≤ maxLen; have := Hlen.out.1; unfold maxLen; omega, by show ([] : List UInt8).length ≤ maxLen; simp⟩
            have hkn : 2 * k ≤ 1000000 := by have := Hl.out; have := Hlt.out; omega
            -- the first one
            have hb8 := below_new W7 (.cells #[.int .i64 pg] 3)
            have mp8 := Hmp.out.below hb8
            have hgx : (W7.alloc (.cells #[.int .i64 pg] 3)).cell? ⟨W7.heap.size, 0, none⟩ = some (.int .i64 pg) := by
              rw [cell_of_row _ _ 0 _ _ _ (heap_alloc_new W7 _)]; rfl
            obtain ⟨v0, st, Wa, v1, Wb, Wc, hr1, hr2, hr3, mpc, hbc, hkc⟩ := pm_append mp8 (m, s, is) hbm pg W7.heap.size hgx (by have := Hmp.out.lt; omega) (lt_alloc _ _) hkn (fun k e => by cases e)
            have hz8 : W7.heap.size < (W7.alloc (.cells #[.int .i64 pg] 3)).heap.size := lt_alloc _ _
            have keepc : ∀ q, q < W7.heap.size → q ≠ w.heap.size → NotInt W7 q → Wc.heap[q]? = W7.heap[q]? := fun q h1 h2 h3 => (hkc q (by omega) h2 (h3.kept (hb8.block q h1))).trans (hb8.block q h1)
            have hgb : ∀ q, g7 ≤ q → q ≠ w.heap.size := fun q h => by have := Hwr.out; have := Hg7.out; omega
            have t8 := keepc (g7 + 1) (by have := Hz7.out; omega) (hgb _ (by omega)) N8.out
            have c0 : Wc.cell? ⟨g7 + 1, 0, none⟩ = some (.string ⟨m.toArray⟩) := (World.cell?_of_block t8).trans Hx7.out.c0
            have hzc : W7.heap.size ≤ Wc.heap.size := by have := (hbc 0 (Nat.zero_le _)).size; omega
            -- the second one
            have hb9 := below_new Wc (.cells #[.string ⟨m.toArray⟩, .string ⟨#[]⟩, .bool false] 62)
            have hx9 := E3.new Wc 62 (.string ⟨m.toArray⟩) (.string ⟨#[]⟩) (.bool false)
            have hb10 := below_new (Wc.alloc (.cells #[.string ⟨m.toArray⟩, .string ⟨#[]⟩, .bool false] 62)) (.cells #[.int .i64 0] 3)
            have mp10 := (mpc.below hb9).below hb10
            have hz9 : (Wc.alloc (.cells #[.string ⟨m.toArray⟩, .string ⟨#[]⟩, .bool false] 62)).heap.size = Wc.heap.size + 1 := by simp
            have hgy : ((Wc.alloc (.cells #[.string ⟨m.toArray⟩, .string ⟨#[]⟩, .bool false] 62)).alloc (.cells #[.int .i64 0] 3)).cell? ⟨Wc.heap.size + 1, 0, none⟩ = some (.int .i64 0) := by
              rw [← hz9, cell_of_row _ _ 0 _ _ _ (heap_alloc_new _ _)]; rfl
            have hz10 : ((Wc.alloc (.cells #[.string ⟨m.toArray⟩, .string ⟨#[]⟩, .bool false] 62)).alloc (.cells #[.int .i64 0] 3)).heap.size = Wc.heap.size + 2 := by simp
            obtain ⟨v2, st2, Wd, v3, We, Wf, hs1, hs2, hs3, mpf, hbf, hkf⟩ := pm_append mp10 (m, [], false) hbt 0 (Wc.heap.size + 1) hgy (by have := Hmp.out.lt; omega) (by rw [hz10]; omega) (by have := Hl.out; have := Hlt.out; omega) (fun k e => by cases e)
            have keepf : ∀ q, q < W7.heap.size → q ≠ w.heap.size → NotInt W7 q → Wf.heap[q]? = W7.heap[q]? := fun q h1 h2 h3 => by
              have e1 := keepc q h1 h2 h3
              have e2 := (hb10.block q (by omega)).trans (hb9.block q (by omega))
              exact ((hkf q (by rw [hz10]; omega) h2 ((h3.kept e1).kept e2)).trans e2).trans e1
            have blf : Below w.heap.size w Wf := ((((Hbl.out.trans (hb8.mono H0W.out)).trans (hbc _ (Nat.le_refl _))).trans (hb9.mono (by have := H0W.out; omega))).trans (hb10.mono (by have := H0W.out; rw [hz9]; omega))).trans (hbf _ (Nat.le_refl _))
            have hownf := own_at Hown.out (w' := Wf) (fun q e => keepf q (World.ownsRow.lt Hown.out q e).2 (own_notMap Hown.out Hmp.out q e) (own_notInt Hown.out q e))
            have ep : plV (m, s, is) = .agg #[.string ⟨m.toArray⟩, .string ⟨s.toArray⟩, .bool is] := rfl
            have et : plV (m, [], false) = .agg #[.string ⟨m.toArray⟩, .string ⟨#[]⟩, .bool false] := rfl
            rw [ep] at hr1
            rw [et] at hs1
            have Hbd := Lib.hid hbd; have Hmf := Lib.hid mpf; have Hblf := Lib.hid blf; have Hownf := Lib.hid hownf
            clear hbd hbm hbt hkn hb8 mp8 hgx mpc hbc hkc hz8 keepc hgb t8 hzc hb9 hb10 mp10 hz9 hgy hz10 mpf hbf hkf keepf blf hownf ep et hbp
            have x0 := hx9.c0; have x1 := hx9.c1; have x2 := hx9.c2
            clear hx9
            have Hr2 := Lib.hid hr2; have Hs2 := Lib.hid hs2
            clear hr2 hs2
            have tk : True := trivial
            go_wp2_with (first
              | (at_builtin; have _t := tk; clear _t; refine wpList_append_run rfl (.tmp 34) (.tmp 37) 22 rfl rfl rfl Hr2.out ?_; clear tk)
              | (at_builtin; refine wpList_append_run rfl (.tmp 46) (.tmp 47) 22 rfl rfl rfl Hs2.out ?_))
            go_roundw
            case rel =>
              refine ⟨k1, by have := Hlt.out; have := Hk1.out; omega, rfl, ⟨?_, ?_, Hblf.out⟩⟩
              · have h2 : (fun p => Ix.pagesAt (l.take k1) p) = fun q => if q = (m, [], false) then (if q = (m, s, is) then Ix.pagesAt (l.take k) q ++ [pg] else Ix.pagesAt (l.take k) q) ++ [0] else (if q = (m, s, is) then Ix.pagesAt (l.take k) q ++ [pg] else Ix.pagesAt (l.take k) q) := by
                  funext q
                  have e1 : Ix.cut wd = (m, s, is) := Hp.out.symm
                  rw [Htk.out, Ix.pagesAt_snoc, if_pos Hbd.out]
                  simp only [e1]
                  have e2 : Ix.top (m, s, is) = (m, [], false) := rfl
                  rw [e2]
                  by_cases h1 : q = (m, s, is)
                  · by_cases h2 : q = (m, [], false)
                    · rw [if_pos h1.symm, if_pos h2.symm, if_pos h2, if_pos h1]; simp
                    · rw [if_pos h1.symm, if_neg (fun e => h2 e.symm), if_neg h2, if_pos h1]; simp
                  · by_cases h2 : q = (m, [], false)
                    · rw [if_neg (fun e => h1 e.symm), if_pos h2.symm, if_pos h2, if_neg h1]; simp
                    · rw [if_neg (fun e => h1 e.symm), if_neg (fun e => h2 e.symm), if_neg h2, if_neg h1]; simp
                rw [h2]
                exact Hmf.out.mono (by have := Hk1.out; omega)
              · rw [Htk.out, Ix.notes_snoc, Hbd.out]
                simp only [List.append_nil]
                exact ⟨_, Hownf.out, Hrep.out⟩
            case measure => have := Hlt.out; have := Hk1.out; simp [intOf]; omega
      · have hpg : Ix.page pg = false := by simpa using hpg
        have hbd := bad_page (wd, pg) hpg
        have Hbd := Lib.hid hbd; have Hpg := Lib.hid hpg; clear hbd hpg
        go_wp2_with (first
          | (go_at_call 27; refine (ix_page pg _).mono ?_; rw [Hpg.out]; rintro e w8 ⟨rfl, hw⟩; have hw := hw.symm; subst hw)
          | (at_builtin; go_loud (refine wpList_append1 rfl (.tmp 56) (.tmp 60) 26 rfl w.heap.size 67 i0 (.agg #[.int .i64 0, .string ⟨#[]⟩]) 2 24 Tryz.underlying26 Hi.out Hz0.out Hz1.out Hz2.out rfl (by decide) _ _ _ Hown.out rfl [.int .i64 5, .string ⟨wd.toArray⟩] rfl (by simp) rfl (by simp [Value.oneCell']) Hnm.out Hn47.out H0W.out ?_); intro v2 w9 own2 g2 at2; obtain ⟨p2, cap2, hv2, _⟩ := own2.form (Nat.succ_pos _); subst hv2))
        go_roundw
        case rel =>
          refine ⟨k1, by have := Hlt.out; have := Hk1.out; omega, rfl, ⟨?_, ?_, ?_⟩⟩
          · have h1 := Hmp.out.keptT g2 (fun q e => ⟨own_notMap Hown.out Hmp.out q e, own_notInt Hown.out q e⟩)
            have h2 : (fun p => Ix.pagesAt (l.take k1) p) = fun p => Ix.pagesAt (l.take k) p := by
              funext q
              rw [Htk.out, Ix.pagesAt_snoc, Hbd.out]
              simp
            rw [h2]
            exact h1.mono (by have := Hk1.out; omega)
          · rw [Htk.out, Ix.notes_snoc, Hbd.out]
            exact ⟨_, by rw [List.length_append]; exact own2, RepRow.snoc (R := RNote) (x := ((5 : Int), wd)) (vs := [.int .i64 5, .string ⟨wd.toArray⟩]) rfl Hrep.out⟩
          · exact Hbl.out.grown g2 H0W.out (fun q e => (World.ownsRow.lt Hown.out q e).1)
        case measure => have := Hlt.out; have := Hk1.out; simp [intOf]; omega
    · have hlt' : ¬ (k : Int) < (l.length : Int) := by omega
      have hkl : k = l.length := by omega
      have hmp := HA.out.mp; have hnt := HA.out.nt; have hbl := HA.out.bl
      rw [show l.take k = l from List.take_of_length_le (by omega)] at hmp hnt
      have hnn : (Ix.notes (l.take k)).length = (Ix.notes l).length := by rw [List.take_of_length_le (by omega)]
      have Hmp := Lib.hid hmp; have Hnt := Lib.hid hnt; have Hbl := Lib.hid hbl; have Hkl := Lib.hid hkl; have Hnn := Lib.hid hnn
      clear hmp hnt hbl hkl hlt hk HA hnn
      go_wp2_with (go_at_call 28; refine (ix_places _ _).mono ?_; rintro e w2 ⟨rfl, rfl⟩)
      obtain ⟨wl, hwl⟩ : ∃ W, W = (wr.alloc (.cells #[.slice none 0 0] 25)).alloc (.cells #[.map (some w.heap.size)] 60) := ⟨_, rfl⟩
      rw [← hwl]
      have hza : (wr.alloc (.cells #[.slice none 0 0] 25)).heap.size = wr.heap.size + 1 := by simp
      have hzl : wl.heap.size = wr.heap.size + 2 := by rw [hwl]; simp
      have hbrl : Below wr.heap.size wr wl := by rw [hwl]; exact bseq (below_new _ _) (below_new _ _)
      have hB10 : wl.heap[wr.heap.size]? = some (.cells #[.slice none 0 0] 25 (0, 0)) := by
        rw [hwl]
        exact ((below_new _ _).block wr.heap.size (by rw [hza]; omega)).trans (heap_alloc_new wr _)
      have hBm : wl.cell? ⟨wr.heap.size + 1, 0, none⟩ = some (.map (some w.heap.size)) := by
        rw [hwl, ← hza, cell_of_row _ _ 0 _ _ _ (heap_alloc_new _ _)]
        rfl
      have hwwr : w.heap.size < wr.heap.size := Hmp.out.lt
      obtain ⟨D, g, hD, hP, hbb, hbs⟩ := Hmp.out.below hbrl
      have hbwl : Below w.heap.size w wl := Hbl.out.trans (hbrl.mono (Nat.le_of_lt hwwr))
      clear hwl hza
      have HB10 := Lib.hid hB10; have HBm := Lib.hid hBm; have HD := Lib.hid hD; have HP := Lib.hid hP; have Hbb := Lib.hid hbb; have Hbwl := Lib.hid hbwl; have Hzl := Lib.hid hzl; have Hwwr := Lib.hid hwwr; have Hbrl := Lib.hid hbrl
      clear hB10 hBm hD hP hbb hbwl hzl hwwr hbrl hbs
      rename_i hKK
      refine (wpIn_wide (n := 3)).1 ?_
      refine range_all (n := 2) (gf := 55) (lb := #[.pointer (some ⟨wr.heap.size + 1, 0, none⟩)]) rfl eg_places (encs := encY) (fun _ => rfl) ((Ix.places l).map fun p => (p, g p)) w.heap.size (by have := Hzl.out; have := Hwwr.out; omega) (fun k => k = wr.heap.size) (fun k h => by have := Hzl.out; omega) (fun N pre W => LnI wl w.heap.size wr.heap.size N l pre W)
        (fun N pre A B h ht => h.turn ht Hwwr.out (by have := Hzl.out; omega)) (fun N pre A o h _ => h.put o (by have := Hzl.out; omega)) ?_ ?_ ?_ ?_
      · intro W ht hz
        exact ⟨⟨_, (ht.block _ ⟨by have := Hzl.out; omega, by have := Hwwr.out; omega⟩).trans HB10.out, OwnL.nil _ _ _ _ _⟩, ht.mono (fun k h => ⟨h.1, h.2.1⟩), hz, Nat.le_refl _⟩
      · intro J W1 hz1 ht1 hJ1 hJ0 hY
        have hD1 := om_kept HD.out (ht1.block w.heap.size (by have := Hzl.out; have := Hwwr.out; omega))
        have hP1 : PRow W1 (w.heap.size + 1) (2 * l.length) D g (fun p => Ix.pagesAt l p) none := by
          rw [← Hkl.out]
          exact ⟨HP.out.at_, fun p hp => own_at (HP.out.own p hp) (fun q e => ht1.block q (World.ownsRow.lt (HP.out.own p hp) q e).2), HP.out.apart, HP.out.has1, HP.out.has2, HP.out.len, HP.out.shun⟩
        refine ix_iter W1 w.heap.size (w.heap.size + 1) (2 * l.length) (wr.heap.size + 1) D g (fun p => Ix.pagesAt l p) none (by rw [← Hkl.out]; exact hD1) hP1 (Nat.lt_succ_self _) ((World.cell?_of_block (ht1.block (wr.heap.size + 1) (by have := Hzl.out; omega))).trans HBm.out) (by have := Hzl.out; omega) (by have := Hwwr.out; omega) (by have := Hl.out; omega) (wl.heap.size + 1) (by omega) (fun k => k = wr.heap.size)
          ⟨by have := Hwwr.out; omega, by have := Hzl.out; have := Hwwr.out; omega⟩ ⟨by omega, by have := Hzl.out; omega⟩ (fun k e => by have := Hzl.out; omega) (Ix.places l) (Ix.places_up l) (fun p => ?_) J hJ1 hJ0 hY
        rw [Ix.mem_places, Ix.has_iff]
        constructor
        · intro h
          refine ⟨?_, h⟩
          obtain ⟨x, hx, hc⟩ := (Ix.has_iff l p).2 h
          have hxl : x ∈ l := (List.mem_filter.1 hx).1
          have h1 := cut_len x.1
          have h2 := Hw.out x hxl
          rcases hc with hc | hc
          · rw [← hc]; exact ⟨by unfold maxLen; omega, by unfold maxLen; omega⟩
          · rw [← hc]; exact ⟨by show (Ix.cut x.1).1.length ≤ maxLen; unfold maxLen; omega, by show ([] : List UInt8).length ≤ maxLen; simp⟩
        · exact fun h => h.2
      · intro N pre x W hI hpx hN1 hN2
        obtain ⟨p, hpl, hxe⟩ : ∃ p ∈ Ix.places l, x = (p, g p) := by
          have h1 : x ∈ (Ix.places l).map fun p => (p, g p) := hpx.subset (List.mem_append_right _ (List.mem_singleton.2 rfl))
          obtain ⟨p, hp, rfl⟩ := List.mem_map.1 h1
          exact ⟨p, hp, rfl⟩
        subst hxe
        obtain ⟨⟨mm, ss, is⟩, hq⟩ : ∃ q, q = p := ⟨_, rfl⟩
        have hyp : encY (p, g p) = #[.agg #[.string ⟨mm.toArray⟩, .string ⟨ss.toArray⟩, .bool is], g p] := by rw [← hq]; rfl
        rw [hyp]
        clear hyp
        have hbp := Ix.bd_places l Hw.out p hpl
        have hlp := Ix.len_places l Hw.out p hpl
        have hpn : pre.length + 1 ≤ 1000000 := by
          have h1 := hpx.length_le
          rw [List.length_append, List.length_map, List.length_cons, List.length_nil] at h1
          have h2 := Ix.places_le l
          have := Hl.out
          omega
        have hown := HP.out.own p hbp
        obtain ⟨pg, cg, hgv⟩ : ∃ pg cg, g p = .slice pg (Ix.pagesAt l p).length cg := by
          rcases hown.2 with ⟨hv, h0⟩ | ⟨g', cap', cur, hv, _⟩
          · exact ⟨none, 0, by rw [hv, h0]⟩
          · exact ⟨_, _, hv⟩
        rw [hgv] at hown
        have Hown := Lib.hid hown; have Hlp := Lib.hid hlp; have Hpn := Lib.hid hpn; have Hpl := Lib.hid hpl; have Hq := Lib.hid hq; have Hgv := Lib.hid hgv; have HN1 := Lib.hid hN1; have HN2 := Lib.hid hN2
        clear hown hlp hpn hpl hq hbp hpx hI hN1 hN2
        gi_wp2
        refine ⟨Turn.of_below (below_new W _) (fun k h => h), fun W2 ht2 hI2 => ?_⟩
        have hwz : w.heap.size < W.heap.size := by have := Hzl.out; have := Hwwr.out; have := HN1.out; have := HN2.out; omega
        have hWl : wl.heap.size + 2 ≤ W.heap.size := by have := HN1.out; have := HN2.out; omega
        have hx2 := E3.new W 62 (.string ⟨mm.toArray⟩) (.string ⟨ss.toArray⟩) (.bool is)
        have hk2 := ht2.block W.heap.size (by omega)
        have q0 := (World.cell?_of_block (a := ⟨W.heap.size, 0, none⟩) hk2).trans hx2.c0; have q1 := (World.cell?_of_block (a := ⟨W.heap.size, 1, none⟩) hk2).trans hx2.c1; have q2 := (World.cell?_of_block (a := ⟨W.heap.size, 2, none⟩) hk2).trans hx2.c2
        have hL2 : Laid01 W2 := by
          have ht := hI2.tn
          have hb := Hbwl.out
          refine HL.out.below ⟨ht.os.trans hb.os, ht.tape.trans hb.tape, ht.output.trans hb.output, Nat.le_trans hb.size ht.size, fun k hk => (ht.block k ⟨?_, ?_, ?_⟩).trans (hb.block k hk)⟩
          · have := hb.size; omega
          · omega
          · have := Hwwr.out; omega
        have hsl : SliceIn (fun _ => True) 1 RInt W2 (.slice pg (Ix.pagesAt l p).length cg) (Ix.pagesAt l p) := by
          have ho : OwnL (w.heap.size + 1) 3 1 RInt W2 (.slice pg (Ix.pagesAt l p).length cg) (Ix.pagesAt l p) := by
            refine ⟨_, own_at Hown.out (fun k e => hI2.tn.block k ?_), ints_rep _⟩
            have hlt := World.ownsRow.lt Hown.out k e
            refine ⟨hlt.2, by omega, fun e2 => ?_⟩
            subst e2
            rcases Hown.out.2 with ⟨hv, h0⟩ | ⟨g', cap', cur, hv, hg', hh, r⟩
            · rw [hv] at e; cases e
            · rw [hv] at e
              simp only [Value.ownBlock, Option.some.injEq] at e
              subst e
              rw [HB10.out] at hh
              simp at hh
          exact ho.slice RInt.size (fun _ => True) (fun _ _ => trivial)
        have hpl1 : (Ix.pagesAt l p).length ≤ 100000 := by have := Ix.pagesAt_length l p; have := Hl.out; omega
        have htx : (Ix.text (Ix.pagesAt l p)).length ≤ 400000 := by
          have h1 := Ix.text_length (Ix.pagesAt l p)
          have h2 := Ix.pagesAt_length l p
          have := Hl.out
          omega
        have hml : mm.length ≤ 10000 ∧ ss.length ≤ 10000 := by have := Hlp.out; rw [← Hq.out] at this; exact this
        obtain ⟨tx, htxe⟩ : ∃ t, t = Ix.text (Ix.pagesAt l p) := ⟨_, rfl⟩
        have hln : Ix.line l p = (if is then 32 :: 32 :: ss else mm) ++ (if tx = [] then [] else 32 :: tx) := by rw [htxe, ← Hq.out]; rfl
        rw [← htxe] at htx
        have HI2 := Lib.hid hI2; have HL2 := Lib.hid hL2; have Hsl := Lib.hid hsl; have Hpl1 := Lib.hid hpl1; have Htx := Lib.hid htx; have Hml := Lib.hid hml; have Htxe := Lib.hid htxe; have Hln := Lib.hid hln; have Hwz := Lib.hid hwz
        clear hI2 hL2 hsl hpl1 htx hml htxe hln hwz ht2 hx2 hWl hk2
        rw [hgv]
        have htbl := Htx.out; have hmml := Hml.out
        cases is with
        | true =>
          have hb1 : ¬ 9223372036854775807 < (⟨([32, 32] ++ ss).toArray⟩ : ByteArray).size := by simp [ByteArray.size]; omega
          gi_wp2
          refine ⟨trivial, (CallsIn.inRound _ (callsIn_wide.2 (ix_Pages (Ix.pagesAt l p) _ _ W2 Hsl.out Hpl1.out HL2.out))).mono ?_⟩
          rw [← Htxe.out]
          rintro e w6 ⟨rfl, hb6⟩
          obtain ⟨ov, v', w7, u, pv, nv', cv, hv', hov, hrun, hu, huf, hI7, ht7⟩ := ln_step HI2.out hb6 (p, .slice pg (Ix.pagesAt l p).length cg) Hpn.out (by have := Hzl.out; omega)
          subst hv'
          have hrn := Hln.out
          cases tx with
          | nil =>
            have es : (⟨(Ix.line l p).toArray⟩ : ByteArray) = ((⟨#[32, 32]⟩ : ByteArray) ++ ⟨ss.toArray⟩) := by rw [hrn, b3232, append_data]; simp
            have hrun := hrun
            simp only [es] at hrun
            have Hi7 := Lib.hid hI7; have Ht7 := Lib.hid ht7; have Hrun := Lib.hid hrun
            clear hI7 ht7 hrun hb6 hrn es
            gi_wp2_with (gi_at_builtin; refine wpListIn_append_run rfl (.tmp 101) (.tmp 103) 25 rfl rfl rfl Hrun.out ?_)
            exact ⟨Ht7.out, Hi7.out⟩
          | cons tc tr =>
            have es : (⟨(Ix.line l p).toArray⟩ : ByteArray) = ((⟨#[32, 32]⟩ : ByteArray) ++ ⟨ss.toArray⟩) ++ (⟨#[32]⟩ ++ ⟨(tc :: tr).toArray⟩) := by rw [hrn, b3232, append_data, b32, append_data, append_data]; simp
            have htb3 : tr.length + 1 ≤ 400000 := by simpa using htbl
            have hs1 : ¬ 9223372036854775807 < 1 + (tr.length + 1) := by omega
            have hs2 : ¬ 9223372036854775807 < 2 + ss.length + (1 + (tr.length + 1)) := by omega
            have hrun := hrun
            simp only [es] at hrun
            have hne : (tc :: tr).isEmpty = false := rfl
            have Hi7 := Lib.hid hI7; have Ht7 := Lib.hid ht7; have Hrun := Lib.hid hrun
            clear hI7 ht7 hrun hb6 hrn es
            gi_wp2_with (gi_at_builtin; refine wpListIn_append_run rfl (.tmp 101) (.tmp 103) 25 rfl rfl rfl Hrun.out ?_)
            exact ⟨Ht7.out, Hi7.out⟩
        | false =>
          gi_wp2
          refine ⟨trivial, (CallsIn.inRound _ (callsIn_wide.2 (ix_Pages (Ix.pagesAt l p) _ _ W2 Hsl.out Hpl1.out HL2.out))).mono ?_⟩
          rw [← Htxe.out]
          rintro e w6 ⟨rfl, hb6⟩
          obtain ⟨ov, v', w7, u, pv, nv', cv, hv', hov, hrun, hu, huf, hI7, ht7⟩ := ln_step HI2.out hb6 (p, .slice pg (Ix.pagesAt l p).length cg) Hpn.out (by have := Hzl.out; omega)
          subst hv'
          have hrn := Hln.out
          cases tx with
          | nil =>
            have es : (⟨(Ix.line l p).toArray⟩ : ByteArray) = (⟨mm.toArray⟩ : ByteArray) := by rw [hrn]; simp
            have hrun := hrun
            simp only [es] at hrun
            have Hi7 := Lib.hid hI7; have Ht7 := Lib.hid ht7; have Hrun := Lib.hid hrun
            clear hI7 ht7 hrun hb6 hrn es
            gi_wp2_with (gi_at_builtin; refine wpListIn_append_run rfl (.tmp 101) (.tmp 103) 25 rfl rfl rfl Hrun.out ?_)
            exact ⟨Ht7.out, Hi7.out⟩
          | cons tc tr =>
            have es : (⟨(Ix.line l p).toArray⟩ : ByteArray) = (⟨mm.toArray⟩ : ByteArray) ++ (⟨#[32]⟩ ++ ⟨(tc :: tr).toArray⟩) := by rw [hrn, b32, append_data, append_data]; simp
            have htb3 : tr.length + 1 ≤ 400000 := by simpa using htbl
            have hs1 : ¬ 9223372036854775807 < 1 + (tr.length + 1) := by omega
            have hs2 : ¬ 9223372036854775807 < mm.length + (1 + (tr.length + 1)) := by omega
            have hrun := hrun
            simp only [es] at hrun
            have hne : (tc :: tr).isEmpty = false := rfl
            have Hi7 := Lib.hid hI7; have Ht7 := Lib.hid ht7; have Hrun := Lib.hid hrun
            clear hI7 ht7 hrun hb6 hrn es
            gi_wp2_with (gi_at_builtin; refine wpListIn_append_run rfl (.tmp 101) (.tmp 103) 25 rfl rfl rfl Hrun.out ?_)
            exact ⟨Ht7.out, Hi7.out⟩
      · intro N W hI hz hdf
        have tp : ∀ k, k ≠ wl.heap.size → (W.putObj wl.heap.size (.deferred none)).heap[k]? = W.heap[k]? := fun k hk => World.putObj_heap_other hk
        have hfin : ∃ ov, W.cell? ⟨wr.heap.size, 0, none⟩ = some ov ∧ OwnL w.heap.size 9 1 RStr (W.putObj wl.heap.size (.deferred none)) ov (Ix.lines l) ∧ OwnL w.heap.size 67 2 RNote (W.putObj wl.heap.size (.deferred none)) (.slice pn (Ix.notes l).length cn) (Ix.notes l) ∧ Below w.heap.size w (W.putObj wl.heap.size (.deferred none)) := by
          obtain ⟨⟨ov, h1, h2⟩, htn, hN, hW⟩ := hI
          have hwz := Hwwr.out
          have hzl := Hzl.out
          have hbl := Hbwl.out
          have hbs := hbl.size
          have htn := htn.trans (Turn.put W wl.heap.size (.deferred none) (fun k h => by omega))
          refine ⟨ov, ?_, ?_, ?_, ⟨htn.os.trans hbl.os, htn.tape.trans hbl.tape, htn.output.trans hbl.output, Nat.le_trans hbl.size htn.size, fun k hk => (htn.block k ⟨?_, ?_, ?_⟩).trans (hbl.block k hk)⟩⟩
          · rw [cell_of_row _ _ 0 _ _ _ h1]; rfl
          · rw [List.map_map] at h2
            have h3 : (Ix.places l).map ((fun y : Yd => Ix.line l y.1) ∘ fun p => (p, g p)) = Ix.lines l := by rw [Ix.lines_places]; rfl
            rw [h3] at h2
            exact (h2.turn (fun k h6 h7 => tp k (by omega))).lower (by omega)
          · obtain ⟨fl, h3, h4⟩ := Hnt.out
            refine ⟨fl, own_at h3 (fun k e => ?_), h4⟩
            have hlt := World.ownsRow.lt h3 k e
            have hnm := own_notMap h3 Hmp.out k e
            exact (htn.block k ⟨by omega, hnm, by omega⟩).trans (Hbrl.out.block k hlt.2)
          · omega
          · omega
          · omega
        have Hfin := Lib.hid hfin
        clear hfin hI tp
        obtain ⟨ov, hov, ho1, ho2, ho3⟩ := Hfin.out
        have Ho1 := Lib.hid ho1; have Ho2 := Lib.hid ho2; have Ho3 := Lib.hid ho3
        clear ho1 ho2 ho3 Hfin
        simp only [Exit.inBlock, Exit.then]
        refine hKK _ _ ?_
        rw [Hnn.out]
        go_wp2
        refine ⟨by simp, .inl ⟨_, _, rfl, run_takeDeferred hdf, ?_⟩⟩
        exact ⟨.tuple #[ov, .slice pn (Ix.notes l).length cn], by rw [results_tmp2 (t := 2) (u := 3) rfl]; simp, _, _, rfl, Ho1.out, Ho2.out, Ho3.out⟩
end Go.Proofs.YthoblbdkmlggbaaGreatDoor
