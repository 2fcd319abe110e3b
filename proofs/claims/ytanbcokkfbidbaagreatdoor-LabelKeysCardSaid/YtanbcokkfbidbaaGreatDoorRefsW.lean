/- The walk of stetlaw15.Refs: entries, copied. -/
import Derived.Test.YtanbcokkfbidbaaGreatDoorSameW
set_option linter.unusedSimpArgs false
set_option linter.unusedVariables false
namespace Go.Proofs.YtanbcokkfbidbaaGreatDoor
open Go.RowKit

/-- 'append(xs, x)' at the operation, of whatever continuation -/
theorem wp_append1 {P : Program} {o : Oper} {a : Act} {w1 : World} {K : Act → World → Prop} {Q : Exit → Act → World → Prop} (s x : Operand) (t : TypeId)
    (ho : o.op = .call { callee := .builtin .append, args := #[s, x], argTypes := #[t, t] })
    (base : Nat) (e : TypeId) (i : TypeInfo) (z : Value) (size bytes : Nat) (ht : P.underlying t = some (.slice e)) (hi : P.info? e = some i) (hz : i.zero = some z)
    (hsize : i.size = size) (hby : i.bytes = bytes) (hzs : z.cells.size = size) (hsz : 0 < size)
    (v : Value) (n : Nat) (xs : List Value) (hown : w1.ownsRow base e size v n xs) (hs : a.eval s = v)
    (news : List Value) {g : Nat} (hx : a.eval x = .slice (some ⟨g, 0, none⟩) 1 1) (hg : g = w1.heap.size) (hl : news.length = size) (h1 : ∀ u ∈ news, u.oneCell' = true)
    (h63 : n + 1 ≤ maxLen) (hbytes : (n + 1) * bytes ≤ 140737488355328) (hbase : base ≤ w1.heap.size)
    (h : ∀ v' w', w'.ownsRow base e size v' (n + 1) (xs ++ news) → w1.grownBy w' v.ownBlock → (v'.ownBlock = v.ownBlock ∨ v'.ownBlock = some (w1.heap.size + 1)) → K (a.put o.dst v') w') :
    o.wp P a (w1.alloc (.cells news.toArray e)) K Q := by
  subst hg
  obtain ⟨v', w', hr, h2, h3, _, h4⟩ := run_append_own_at (P := P) (w1.alloc (.cells news.toArray e)) base t o.type e i z size bytes ht hi hz hsize hby hzs hsz v n xs (hown.alloc _) ⟨w1.heap.size, 0, none⟩ 1 1 news
    (by rw [hl]; simp) (fun j u hu => by
      have hadd : (⟨w1.heap.size, 0, none⟩ : Addr).add j = ⟨w1.heap.size, j, none⟩ := by unfold Addr.add; split <;> simp_all
      rw [hadd, cell_of_row _ _ j _ _ _ (heap_alloc_new w1 _)]
      simpa using hu) h1 h63 hbytes (by simp; omega)
  unfold Oper.wp execOp
  simp only [ho, resolve, invoke, builtin, Sem.run_bind, Sem.run_pure, Result.andThen_ok, List.map_toArray, List.map_cons, List.map_nil, hs, hx, hr]
  exact h v' w' h2 (grown_trans (World.grownBy_alloc w1 _ _) h3) (by simpa using h4)

theorem rfield_info : (Tryz.prog.info? 60).map (fun i => (i.zero, i.size, i.bytes)) = some (some (.agg #[.string ⟨#[]⟩, .string ⟨#[]⟩]), 2, 32) := by kernel_rfl
theorem rent_info : (Tryz.prog.info? 59).map (fun i => (i.zero, i.size, i.bytes)) = some (some (.agg #[.string ⟨#[]⟩, .string ⟨#[]⟩, .slice none 0 0]), 3, 56) := by kernel_rfl
/-- entries as they are copied: everything from B on is the call's own -/
def Outs (B : Nat) (t : TypeId) (W : World) (vo : Value) (out : List Ent.Ent) : Prop := ∃ fl, W.ownsRow B t 3 vo out.length fl ∧ RepRow (REnt (fun j => B ≤ j ∧ vo.ownBlock ≠ some j) W) out fl
theorem Outs.below {B : Nat} {t : TypeId} {W W' : World} {vo : Value} {out : List Ent.Ent} (h : Outs B t W vo out) (hb : Below W.heap.size W W') : Outs B t W' vo out := by
  obtain ⟨fl, h1, h2⟩ := h
  exact ⟨fl, own_below h1 hb, h2.imp (fun x vs _ hx => hx.kept (fun _ h => h) hb.size (fun b _ hlt => hb.block b hlt))⟩
/-- an entry as its fields are copied -/
structure Cop (g : Nat) (t : TypeId) (k y : List UInt8) (fs : List Ent.Fld) (vf : Value) (W : World) : Prop where
  ck : W.cell? ⟨g, 0, none⟩ = some (.string ⟨k.toArray⟩)
  cy : W.cell? ⟨g, 1, none⟩ = some (.string ⟨y.toArray⟩)
  cv : W.cell? ⟨g, 2, none⟩ = some vf
  free : W.frozen? ⟨g, 2, none⟩ = false
  lt : g < W.heap.size
  row : ∃ fl, W.ownsRow (g + 1) t 2 vf fs.length fl ∧ RepRow RFld fs fl
theorem Cop.below {g : Nat} {t : TypeId} {k y : List UInt8} {fs : List Ent.Fld} {vf : Value} {W W' : World} (h : Cop g t k y fs vf W) (hb : Below W.heap.size W W') : Cop g t k y fs vf W' :=
  ⟨(hb.cell (p := ⟨g, 0, none⟩) h.lt).trans h.ck, (hb.cell (p := ⟨g, 1, none⟩) h.lt).trans h.cy, (hb.cell (p := ⟨g, 2, none⟩) h.lt).trans h.cv, (hb.frozen (p := ⟨g, 2, none⟩) h.lt).trans h.free, Nat.lt_of_lt_of_le h.lt hb.size, let ⟨fl, h1, h2⟩ := h.row; ⟨fl, own_below h1 hb, h2⟩⟩
theorem Cop.new (w : World) (t t2 : TypeId) (k y : List UInt8) : Cop w.heap.size t2 k y [] (.slice none 0 0) (w.alloc (.cells #[.string ⟨k.toArray⟩, .string ⟨y.toArray⟩, .slice none 0 0] t)) := by
  have c : ∀ (i : Nat) (u : Value), #[Value.string ⟨k.toArray⟩, .string ⟨y.toArray⟩, .slice none 0 0][i]? = some u → (w.alloc (.cells #[.string ⟨k.toArray⟩, .string ⟨y.toArray⟩, .slice none 0 0] t)).cell? ⟨w.heap.size, i, none⟩ = some u := by
    intro i u hu
    rw [cell_of_row _ _ _ _ _ _ (heap_alloc_new w _)]
    exact hu
  exact ⟨c 0 _ rfl, c 1 _ rfl, c 2 _ rfl, new_frozen w _ t 2, lt_alloc _ _, [], ⟨rfl, .inl ⟨rfl, rfl⟩⟩, rfl⟩
/-- a field more -/
theorem Cop.more {g : Nat} {t : TypeId} {k y : List UInt8} {fs : List Ent.Fld} {vf : Value} {W W' : World} (h : Cop g t k y fs vf W) {vf' : Value} {f : Ent.Fld} {fl : List Value} (hrep : RepRow RFld fs fl) (hown : W'.ownsRow (g + 1) t 2 vf' (fs.length + 1) (fl ++ [.string ⟨f.name.toArray⟩, .string ⟨f.text.toArray⟩])) (hg : W.grownBy W' vf.ownBlock) :
    Cop g t k y (fs ++ [f]) vf' (W'.setCell ⟨g, 2, none⟩ vf') := by
  obtain ⟨fl0, h1, _⟩ := h.row
  have hne : vf.ownBlock ≠ some g := fun e => by have := (h1.lt g e).1; omega
  have hc := fun i => grown_cell hg h.lt hne i
  have hs : ∀ i, i ≠ 2 → (W'.setCell ⟨g, 2, none⟩ vf').cell? ⟨g, i, none⟩ = W.cell? ⟨g, i, none⟩ := fun i hi => (World.cell?_setCell_other _ _ _ _ (fun e => hi (by cases e; rfl))).trans (hc i)
  refine ⟨(hs 0 (by decide)).trans h.ck, (hs 1 (by decide)).trans h.cy, World.cell?_setCell_same _ _ _ ((hc 2).trans h.cv), by simpa using (grown_frozen hg h.lt hne 2).trans h.free, by simpa using Nat.lt_of_lt_of_le h.lt hg.size, _, ?_, RepRow.snoc (x := f) rfl hrep⟩
  rw [List.length_append]
  exact hown.kept (grown_set W' g 2 vf') (own_ne hown)

theorem Outs.more {B : Nat} {t : TypeId} {W W' : World} {vo vo' vf : Value} {out : List Ent.Ent} {x : Ent.Ent} {fl : List Value} (hz : B ≤ W.heap.size) (hrep : RepRow (REnt (fun j => B ≤ j ∧ vo.ownBlock ≠ some j) W) out fl)
    (hx : SliceIn (fun j => B ≤ j ∧ vo.ownBlock ≠ some j) 2 RFld W vf x.fields) (hown : W'.ownsRow B t 3 vo' (out.length + 1) (fl ++ [.string ⟨x.kind.toArray⟩, .string ⟨x.key.toArray⟩, vf])) (hg : W.grownBy W' vo.ownBlock)
    (hat : vo'.ownBlock = vo.ownBlock ∨ vo'.ownBlock = some (W.heap.size + 1)) : Outs B t W' vo' (out ++ [x]) := by
  have hk : ∀ j, (B ≤ j ∧ vo.ownBlock ≠ some j) → j < W.heap.size → (B ≤ j ∧ vo'.ownBlock ≠ some j) ∧ W'.heap[j]? = W.heap[j]? := fun j hj hlt => by
    refine ⟨⟨hj.1, ?_⟩, hg.block j hlt (fun e => hj.2 e.symm)⟩
    rcases hat with e | e
    · rw [e]; exact hj.2
    · rw [e]; intro e2; injection e2 with e2; omega
  refine ⟨_, ?_, RepRow.snoc (x := x) ⟨vf, rfl, hx.moved hk hg.size (fun _ _ _ h => h)⟩ (hrep.imp (fun y us _ hy => hy.moved hk hg.size))⟩
  rw [List.length_append]
  exact hown
theorem Cop.form {g : Nat} {t : TypeId} {k y : List UInt8} {fs : List Ent.Fld} {vf : Value} {W : World} (h : Cop g t k y fs vf W) : ∃ p n c, vf = .slice p n c := by
  obtain ⟨fl, h1, _⟩ := h.row
  rcases h1.2 with ⟨h, _⟩ | ⟨g, cap, cur, h, _⟩
  · exact ⟨_, _, _, h⟩
  · exact ⟨_, _, _, h⟩

set_option maxRecDepth 100000 in
set_option maxHeartbeats 3200000 in
theorem law_refs (l : List Ent.Ent) (va : Value) (S : Nat → Prop) (w : World) (hE : Ents S w va l) (hl : l.length ≤ 1000000000) (hfl : ∀ x ∈ l, x.fields.length ≤ 1000000000) :
    Calls Tryz.prog 9 #[va] w fun e w' => ∃ vo, e = .returned vo ∧ Outs w.heap.size 59 w' vo l ∧ Below w.heap.size w w' := by
  obtain ⟨p, cap, rfl, hle, hm, hat⟩ := hE
  have Hat := Lib.hid hat; have Hfl := Lib.hid hfl; clear hat hm hle hfl
  go_enter Tryz.func9, Tryz.ntmps9
  go_wp2_with fail
  go_loopw [3, 4] (fun vo i wr => ∃ k : Nat, k ≤ l.length ∧ i = .int .i64 (k : Int) ∧ Outs w.heap.size 59 wr vo (l.take k) ∧ Below w.heap.size w wr) (fun _ i _ => l.length - (intOf i).toNat)
  case atStart => exact ⟨0, Nat.zero_le _, rfl, ⟨[], own_built w _ _ 3 0 [] (Nat.le_refl _) rfl (by unfold maxLen; omega), rfl⟩, below_new w _⟩
  case round =>
    obtain ⟨k, hk, rfl, hO, hb⟩ := hrel
    have HO := Lib.hid hO; have Hb := Lib.hid hb; clear hO hb
    by_cases hlt : k < l.length
    · obtain ⟨x, hx⟩ : ∃ x, l[k]? = some x := ⟨_, List.getElem?_eq_getElem hlt⟩
      obtain ⟨b, off, vs, rfl, _, hbw, hR, hc⟩ := Hat.out k x hx
      obtain ⟨vf, rfl, hF⟩ := hR
      obtain ⟨pf, cf, rfl, hFr⟩ := hF
      have e0 : wr.cell? ⟨b, off + k * 3, none⟩ = some (.string ⟨x.kind.toArray⟩) := (Hb.out.cell (p := ⟨b, off + k * 3, none⟩) hbw).trans (hc 0 _ rfl)
      have e1 : wr.cell? ⟨b, off + k * 3 + 1, none⟩ = some (.string ⟨x.key.toArray⟩) := (Hb.out.cell (p := ⟨b, off + k * 3 + 1, none⟩) hbw).trans (hc 1 _ rfl)
      have e2 : wr.cell? ⟨b, off + k * 3 + 2, none⟩ = some (.slice pf x.fields.length cf) := (Hb.out.cell (p := ⟨b, off + k * 3 + 2, none⟩) hbw).trans (hc 2 _ rfl)
      have hlt' : (k : Int) < (l.length : Int) := by omega
      have hkl : (k : Int) + 1 ≤ 9223372036854775807 := by omega
      have hxf := Hfl.out x (List.mem_of_getElem? hx)
      have Hx := Lib.hid hx; have HFr := Lib.hid hFr
      clear hc hx hFr
      go_wp2_with fail
      go_region_held3 (fun W => W.cell? ⟨b, off + k * 3, none⟩ = some (.string ⟨x.kind.toArray⟩) ∧ W.cell? ⟨b, off + k * 3 + 1, none⟩ = some (.string ⟨x.key.toArray⟩))
        (first | exact hS | go_keep)
        ((fail))
      have HC := Lib.hid ((Cop.new wr 59 60 x.kind x.key).below (Below.refl _ _).drew)
      have HB1 := Lib.hid ((below_new wr (.cells #[.string ⟨x.kind.toArray⟩, .string ⟨x.key.toArray⟩, .slice none 0 0] 59)).drew)
      generalize (wr.alloc (.cells #[.string ⟨x.kind.toArray⟩, .string ⟨x.key.toArray⟩, .slice none 0 0] 59)).drew = w1 at HC HB1 ⊢
      obtain ⟨wo, hwo⟩ : ∃ wo, wo = wr := ⟨_, rfl⟩
      subst hwo
      clear e0 e1
      go_wp2_with fail
      go_loopw [6] (fun jv wr => ∃ (j : Nat) (vf : Value), j ≤ x.fields.length ∧ jv = .int .i64 (j : Int) ∧ Cop wo.heap.size 60 x.kind x.key (x.fields.take j) vf wr ∧ Below wo.heap.size wo wr) (fun jv _ => x.fields.length - (intOf jv).toNat)
      case atStart => exact ⟨0, _, Nat.zero_le _, rfl, HC.out, HB1.out⟩
      case round =>
        clear HC HB1
        obtain ⟨j, vf, hj, rfl, hC, hbj⟩ := hrel
        have HC := Lib.hid hC; have Hbj := Lib.hid hbj
        have hbx := Hb.out.trans (hbj.mono Hb.out.size)
        have Hbx := Lib.hid hbx
        have hzo := Hb.out.size
        have e2 := (hbj.cell (p := ⟨b, off + k * 3 + 2, none⟩) (Nat.lt_of_lt_of_le hbw hzo)).trans e2
        have c2 := hC.cv
        have c2f := hC.free
        clear hC hbj hbx
        by_cases hjl : j < x.fields.length
        · obtain ⟨f1, hf1⟩ : ∃ f1, x.fields[j]? = some f1 := ⟨_, List.getElem?_eq_getElem hjl⟩
          obtain ⟨b3, off3, vs3, rfl, _, hbw3, hR3, hc3⟩ := HFr.out.2.2 j f1 hf1
          have hR3 : vs3 = _ := hR3
          subst hR3
          have a0 : wr.cell? ⟨b3, off3 + j * 2, none⟩ = some (.string ⟨f1.name.toArray⟩) := (Hbx.out.cell (p := ⟨b3, off3 + j * 2, none⟩) hbw3).trans (hc3 0 _ rfl)
          have a1 : wr.cell? ⟨b3, off3 + j * 2 + 1, none⟩ = some (.string ⟨f1.text.toArray⟩) := (Hbx.out.cell (p := ⟨b3, off3 + j * 2 + 1, none⟩) hbw3).trans (hc3 1 _ rfl)
          have hj1 : (j : Int) < (x.fields.length : Int) := by omega
          have hjk : (j : Int) + 1 ≤ 9223372036854775807 := by omega
          have htk : x.fields.take (j + 1) = x.fields.take j ++ [f1] := by rw [List.take_add_one, hf1]; rfl
          have Htk := Lib.hid htk
          clear hc3 hf1 htk
          go_upto_region 9 with fail
          obtain ⟨fl, hown, hrep⟩ := HC.out.row
          obtain ⟨i0, hi, hz0, hz1, hz2⟩ := info_parts rfield_info
          have htl : (x.fields.take j).length = j := by rw [List.length_take]; omega
          rw [htl] at hown
          have hbo : b < wo.heap.size := Nat.lt_of_lt_of_le hbw hzo
          have hbo3 : b3 < wo.heap.size := Nat.lt_of_lt_of_le hbw3 hzo
          have hgx : wo.heap.size < wr.heap.size := HC.out.lt
          have Hown := Lib.hid hown; have Hrep := Lib.hid hrep; have Hi := Lib.hid hi; have Hz0 := Lib.hid hz0; have Hz1 := Lib.hid hz1; have Hz2 := Lib.hid hz2
          clear hown hrep hi hz0 hz1 hz2
          refine wp_region_any (by kernel_rfl) ?_
          change wpAny _ _ _ _ _ _ _ (World.drew _)
          have hS : (fun W : World => W.cell? ⟨b, off + k * 3 + 2, none⟩ = some (.slice (some ⟨b3, off3, none⟩) x.fields.length cf) ∧ W.cell? ⟨b3, off3 + j * 2, none⟩ = some (.string ⟨f1.name.toArray⟩) ∧ W.cell? ⟨b3, off3 + j * 2 + 1, none⟩ = some (.string ⟨f1.text.toArray⟩)) wr.drew := ⟨e2, a0, a1⟩
          dsimp only at hS
          have hb7 : Below wr.heap.size wr wr.drew := (Below.refl _ _).drew
          have Hown7 := Lib.hid (own_below Hown.out hb7); have HC7 := Lib.hid (HC.out.below hb7); have Hb7 := Lib.hid (Hbj.out.drew)
          have c7 : wr.drew.cell? ⟨wo.heap.size, 2, none⟩ = some vf := c2
          have hgx7 : wo.heap.size < wr.drew.heap.size := hgx
          have hlt1 : b < wr.drew.heap.size := Nat.lt_trans hbo hgx7
          have hlt3 : b3 < wr.drew.heap.size := Nat.lt_trans hbo3 hgx7
          generalize wr.drew = w7 at hS Hown7 HC7 Hb7 c7 hgx7 hlt1 hlt3 ⊢
          clear hb7 Hown HC
          refine wpAny_of_held (S := fun W => W.cell? ⟨b, off + k * 3 + 2, none⟩ = some (.slice (some ⟨b3, off3, none⟩) x.fields.length cf) ∧ W.cell? ⟨b3, off3 + j * 2, none⟩ = some (.string ⟨f1.name.toArray⟩) ∧ W.cell? ⟨b3, off3 + j * 2 + 1, none⟩ = some (.string ⟨f1.text.toArray⟩)) _ _ _ _ ?_
          refine wpAnyH_take (i := 0) (v := .pointer (some ⟨wo.heap.size, 2, none⟩)) rfl (by kernel_rfl) (by kernel_rfl) (by kernel_rfl) (fun _ _ _ h => h) (Or.inl ⟨by kernel_rfl, fun W hW => by go_simp⟩) (by assumption) ?_
          try simp only [Act.put, List.getElem_toArray, List.getElem_cons_zero, List.getElem_cons_succ, List.setIfInBounds_toArray, List.set_cons_zero, List.set_cons_succ]
          refine wpAnyH_take (i := 2) (v := .slice (some ⟨b, off, none⟩) l.length cap) rfl (by kernel_rfl) (by kernel_rfl) (by kernel_rfl) (fun _ _ _ h => h) (Or.inl ⟨by kernel_rfl, fun W hW => by kernel_rfl⟩) (by assumption) ?_
          try simp only [Act.put, List.getElem_toArray, List.getElem_cons_zero, List.getElem_cons_succ, List.setIfInBounds_toArray, List.set_cons_zero, List.set_cons_succ]
          refine wpAnyH_take (i := 3) (v := .int .i64 (k : Int)) rfl (by kernel_rfl) (by kernel_rfl) (by kernel_rfl) (fun _ _ _ h => h) (Or.inl ⟨by kernel_rfl, fun W hW => by kernel_rfl⟩) (by assumption) ?_
          try simp only [Act.put, List.getElem_toArray, List.getElem_cons_zero, List.getElem_cons_succ, List.setIfInBounds_toArray, List.set_cons_zero, List.set_cons_succ]
          refine wpAnyH_take (i := 4) (v := .pointer (some ⟨b, off + k * 3, none⟩)) rfl (by kernel_rfl) (by kernel_rfl) (by kernel_rfl) (fun _ _ _ h => h) (Or.inl ⟨by kernel_rfl, fun W hW => by go_simp⟩) (by assumption) ?_
          try simp only [Act.put, List.getElem_toArray, List.getElem_cons_zero, List.getElem_cons_succ, List.setIfInBounds_toArray, List.set_cons_zero, List.set_cons_succ]
          refine wpAnyH_take (i := 5) (v := .pointer (some ⟨b, off + k * 3 + 2, none⟩)) rfl (by kernel_rfl) (by kernel_rfl) (by kernel_rfl) (fun _ _ _ h => h) (Or.inl ⟨by kernel_rfl, fun W hW => by go_simp⟩) (by assumption) ?_
          try simp only [Act.put, List.getElem_toArray, List.getElem_cons_zero, List.getElem_cons_succ, List.setIfInBounds_toArray, List.set_cons_zero, List.set_cons_succ]
          refine wpAnyH_take (i := 6) (v := .slice (some ⟨b3, off3, none⟩) x.fields.length cf) rfl (by kernel_rfl) (by kernel_rfl) (by kernel_rfl) (fun _ _ _ h => h) (Or.inl ⟨by kernel_rfl, fun W hW => by obtain ⟨hW0, hW1, hW2⟩ := hW; go_simp⟩) (by assumption) ?_
          try simp only [Act.put, List.getElem_toArray, List.getElem_cons_zero, List.getElem_cons_succ, List.setIfInBounds_toArray, List.set_cons_zero, List.set_cons_succ]
          refine wpAnyH_take (i := 7) (v := .int .i64 (j : Int)) rfl (by kernel_rfl) (by kernel_rfl) (by kernel_rfl) (fun _ _ _ h => h) (Or.inl ⟨by kernel_rfl, fun W hW => by kernel_rfl⟩) (by assumption) ?_
          try simp only [Act.put, List.getElem_toArray, List.getElem_cons_zero, List.getElem_cons_succ, List.setIfInBounds_toArray, List.set_cons_zero, List.set_cons_succ]
          refine wpAnyH_take (i := 8) (v := .pointer (some ⟨b3, off3 + j * 2, none⟩)) rfl (by kernel_rfl) (by kernel_rfl) (by kernel_rfl) (fun _ _ _ h => h) (Or.inl ⟨by kernel_rfl, fun W hW => by go_simp⟩) (by assumption) ?_
          try simp only [Act.put, List.getElem_toArray, List.getElem_cons_zero, List.getElem_cons_succ, List.setIfInBounds_toArray, List.set_cons_zero, List.set_cons_succ]
          refine wpAnyH_take (i := 9) (v := .pointer (some ⟨b3, off3 + j * 2, none⟩)) rfl (by kernel_rfl) (by kernel_rfl) (by kernel_rfl) (fun _ _ _ h => h) (Or.inl ⟨by kernel_rfl, fun W hW => by go_simp⟩) (by assumption) ?_
          try simp only [Act.put, List.getElem_toArray, List.getElem_cons_zero, List.getElem_cons_succ, List.setIfInBounds_toArray, List.set_cons_zero, List.set_cons_succ]
          refine wpAnyH_take (i := 10) (v := .string ⟨f1.name.toArray⟩) rfl (by kernel_rfl) (by kernel_rfl) (by kernel_rfl) (fun _ _ _ h => h) (Or.inl ⟨by kernel_rfl, fun W hW => by obtain ⟨hW0, hW1, hW2⟩ := hW; go_simp⟩) (by assumption) ?_
          try simp only [Act.put, List.getElem_toArray, List.getElem_cons_zero, List.getElem_cons_succ, List.setIfInBounds_toArray, List.set_cons_zero, List.set_cons_succ]
          refine wpAnyH_take (i := 11) (v := .slice (some ⟨b, off, none⟩) l.length cap) rfl (by kernel_rfl) (by kernel_rfl) (by kernel_rfl) (fun _ _ _ h => h) (Or.inl ⟨by kernel_rfl, fun W hW => by kernel_rfl⟩) (by assumption) ?_
          try simp only [Act.put, List.getElem_toArray, List.getElem_cons_zero, List.getElem_cons_succ, List.setIfInBounds_toArray, List.set_cons_zero, List.set_cons_succ]
          refine wpAnyH_take (i := 12) (v := .int .i64 (k : Int)) rfl (by kernel_rfl) (by kernel_rfl) (by kernel_rfl) (fun _ _ _ h => h) (Or.inl ⟨by kernel_rfl, fun W hW => by kernel_rfl⟩) (by assumption) ?_
          try simp only [Act.put, List.getElem_toArray, List.getElem_cons_zero, List.getElem_cons_succ, List.setIfInBounds_toArray, List.set_cons_zero, List.set_cons_succ]
          refine wpAnyH_take (i := 13) (v := .pointer (some ⟨b, off + k * 3, none⟩)) rfl (by kernel_rfl) (by kernel_rfl) (by kernel_rfl) (fun _ _ _ h => h) (Or.inl ⟨by kernel_rfl, fun W hW => by go_simp⟩) (by assumption) ?_
          try simp only [Act.put, List.getElem_toArray, List.getElem_cons_zero, List.getElem_cons_succ, List.setIfInBounds_toArray, List.set_cons_zero, List.set_cons_succ]
          refine wpAnyH_take (i := 14) (v := .pointer (some ⟨b, off + k * 3 + 2, none⟩)) rfl (by kernel_rfl) (by kernel_rfl) (by kernel_rfl) (fun _ _ _ h => h) (Or.inl ⟨by kernel_rfl, fun W hW => by go_simp⟩) (by assumption) ?_
          try simp only [Act.put, List.getElem_toArray, List.getElem_cons_zero, List.getElem_cons_succ, List.setIfInBounds_toArray, List.set_cons_zero, List.set_cons_succ]
          refine wpAnyH_take (i := 15) (v := .slice (some ⟨b3, off3, none⟩) x.fields.length cf) rfl (by kernel_rfl) (by kernel_rfl) (by kernel_rfl) (fun _ _ _ h => h) (Or.inl ⟨by kernel_rfl, fun W hW => by obtain ⟨hW0, hW1, hW2⟩ := hW; go_simp⟩) (by assumption) ?_
          try simp only [Act.put, List.getElem_toArray, List.getElem_cons_zero, List.getElem_cons_succ, List.setIfInBounds_toArray, List.set_cons_zero, List.set_cons_succ]
          refine wpAnyH_take (i := 16) (v := .int .i64 (j : Int)) rfl (by kernel_rfl) (by kernel_rfl) (by kernel_rfl) (fun _ _ _ h => h) (Or.inl ⟨by kernel_rfl, fun W hW => by kernel_rfl⟩) (by assumption) ?_
          try simp only [Act.put, List.getElem_toArray, List.getElem_cons_zero, List.getElem_cons_succ, List.setIfInBounds_toArray, List.set_cons_zero, List.set_cons_succ]
          refine wpAnyH_take (i := 17) (v := .pointer (some ⟨b3, off3 + j * 2, none⟩)) rfl (by kernel_rfl) (by kernel_rfl) (by kernel_rfl) (fun _ _ _ h => h) (Or.inl ⟨by kernel_rfl, fun W hW => by go_simp⟩) (by assumption) ?_
          try simp only [Act.put, List.getElem_toArray, List.getElem_cons_zero, List.getElem_cons_succ, List.setIfInBounds_toArray, List.set_cons_zero, List.set_cons_succ]
          refine wpAnyH_take (i := 18) (v := .pointer (some ⟨b3, off3 + j * 2 + 1, none⟩)) rfl (by kernel_rfl) (by kernel_rfl) (by kernel_rfl) (fun _ _ _ h => h) (Or.inl ⟨by kernel_rfl, fun W hW => by go_simp⟩) (by assumption) ?_
          try simp only [Act.put, List.getElem_toArray, List.getElem_cons_zero, List.getElem_cons_succ, List.setIfInBounds_toArray, List.set_cons_zero, List.set_cons_succ]
          refine wpAnyH_take (i := 19) (v := .string ⟨f1.text.toArray⟩) rfl (by kernel_rfl) (by kernel_rfl) (by kernel_rfl) (fun _ _ _ h => h) (Or.inl ⟨by kernel_rfl, fun W hW => by obtain ⟨hW0, hW1, hW2⟩ := hW; go_simp⟩) (by assumption) ?_
          try simp only [Act.put, List.getElem_toArray, List.getElem_cons_zero, List.getElem_cons_succ, List.setIfInBounds_toArray, List.set_cons_zero, List.set_cons_succ]
          refine wpAnyH_take (i := 20) (v := .agg #[.string ⟨f1.name.toArray⟩, .string ⟨f1.text.toArray⟩]) rfl (by kernel_rfl) (by kernel_rfl) (by kernel_rfl) (fun _ _ _ h => h) (Or.inl ⟨by kernel_rfl, fun W hW => by kernel_rfl⟩) (by assumption) ?_
          try simp only [Act.put, List.getElem_toArray, List.getElem_cons_zero, List.getElem_cons_succ, List.setIfInBounds_toArray, List.set_cons_zero, List.set_cons_succ]
          have Hown8 := Hown7; have HC8 := HC7; have Hb8 := Hb7
          have hbase8 : wo.heap.size + 1 ≤ w7.heap.size := hgx7
          have hb9 := below_new w7 (.cells #[.string ⟨f1.name.toArray⟩, .string ⟨f1.text.toArray⟩] 60)
          have hS9 := And.intro ((hb9.cell (p := ⟨b, off + k * 3 + 2, none⟩) hlt1).trans hS.1) (And.intro ((hb9.cell (p := ⟨b3, off3 + j * 2, none⟩) hlt3).trans hS.2.1) ((hb9.cell (p := ⟨b3, off3 + j * 2 + 1, none⟩) hlt3).trans hS.2.2))
          have c9 := (hb9.cell (p := ⟨wo.heap.size, 2, none⟩) hgx7).trans c7
          refine wpAnyH_ready (rs := [1, 21]) (by kernel_rfl) (by simp) ?_
          refine AllReadyH.cons rfl (fun K hK => ?_) (AllReadyH.cons rfl (fun K hK => ?_) AllReadyH.nil)
          · go_simp
            refine hK.out _ _ hS (fun _ => ?_)
            clear K hK
            try simp only [Act.put, List.getElem_toArray, List.getElem_cons_zero, List.getElem_cons_succ, List.setIfInBounds_toArray, List.set_cons_zero, List.set_cons_succ]
            refine wpAnyH_ready (rs := [21]) (by kernel_rfl) (by simp) ?_
            refine AllReadyH.cons rfl (fun K hK => ?_) AllReadyH.nil
            go_simp
            refine hK.out _ _ hS9 (fun _ => ?_)
            clear K hK
            try simp only [Act.put, List.getElem_toArray, List.getElem_cons_zero, List.getElem_cons_succ, List.setIfInBounds_toArray, List.set_cons_zero, List.set_cons_succ]
            refine wpAnyH_ready (rs := [22]) (by kernel_rfl) (by simp) ?_
            refine AllReadyH.cons rfl (fun K hK => ?_) AllReadyH.nil
            rw [if_pos (by kernel_rfl)]
            refine wp_append1 (.tmp 36) (.tmp 56) 57 rfl (wo.heap.size + 1) 60 i0 (.agg #[.string ⟨#[]⟩, .string ⟨#[]⟩]) 2 32 Tryz.underlying57 Hi.out Hz0.out Hz1.out Hz2.out (by rfl) (by decide) vf j fl Hown8.out rfl [.string ⟨f1.name.toArray⟩, .string ⟨f1.text.toArray⟩] rfl rfl rfl (by simp [Value.oneCell']) (by unfold maxLen; omega) (by omega) hbase8 ?_
            intro v2 w2 own2 g2 at2
            obtain ⟨p2, cap2, rfl, hp2, hq2⟩ := own2.form (Nat.succ_pos _)
            have hC2 := HC8.out.more (f := f1) Hrep.out (by rw [htl]; exact own2) g2
            rw [← Htk.out] at hC2
            have hne2 : ∀ q : Nat, q < wo.heap.size → vf.ownBlock ≠ some q := fun q hq e => by have := (Hown8.out.lt q e).1; omega
            have hS2 := And.intro ((grown_cell g2 hlt1 (hne2 b hbo) (off + k * 3 + 2)).trans hS.1) (And.intro ((grown_cell g2 hlt3 (hne2 b3 hbo3) (off3 + j * 2)).trans hS.2.1) ((grown_cell g2 hlt3 (hne2 b3 hbo3) (off3 + j * 2 + 1)).trans hS.2.2))
            have c2' := (grown_cell g2 HC8.out.lt (fun e => by have := (Hown8.out.lt _ e).1; omega) 2).trans HC8.out.cv
            have c2f' := (grown_frozen g2 HC8.out.lt (fun e => by have := (Hown8.out.lt _ e).1; omega) 2).trans HC8.out.free
            have hb2 : Below wo.heap.size wo w2 := Hb8.out.grown g2 (by have := Hb8.out.size; omega) (fun q e => by have := (Hown8.out.lt q e).1; omega)
            refine hK.out _ _ hS2 (fun _ => ?_)
            clear K hK
            try simp only [Act.put, List.getElem_toArray, List.getElem_cons_zero, List.getElem_cons_succ, List.setIfInBounds_toArray, List.set_cons_zero, List.set_cons_succ]
            refine wpAnyH_take (i := 23) (v := .pointer (some ⟨wo.heap.size, 2, none⟩)) rfl (by kernel_rfl) (by kernel_rfl) (by kernel_rfl) (fun _ _ _ h => h) (Or.inl ⟨by kernel_rfl, fun W hW => by go_simp⟩) (by assumption) ?_
            try simp only [Act.put, List.getElem_toArray, List.getElem_cons_zero, List.getElem_cons_succ, List.setIfInBounds_toArray, List.set_cons_zero, List.set_cons_succ]
            refine wpAnyH_ready (rs := [24]) (by kernel_rfl) (by simp) ?_
            refine AllReadyH.cons rfl (fun K hK => ?_) AllReadyH.nil
            go_simp
            refine hK.out _ _ ⟨(World.cell?_setCell_other _ _ _ _ (fun e => by injection e with e; omega)).trans hS2.1, (World.cell?_setCell_other _ _ _ _ (fun e => by injection e with e; omega)).trans hS2.2.1, (World.cell?_setCell_other _ _ _ _ (fun e => by injection e with e; omega)).trans hS2.2.2⟩ (fun _ => ?_)
            clear K hK
            try simp only [Act.put, List.getElem_toArray, List.getElem_cons_zero, List.getElem_cons_succ, List.setIfInBounds_toArray, List.set_cons_zero, List.set_cons_succ]
            refine wpAnyH_done (by kernel_rfl) ?_ _
            have HC2 := Lib.hid hC2; have Hb2 := Lib.hid (hb2.setCell (p := ⟨wo.heap.size, 2, none⟩) (Nat.le_refl _) (.slice (some ⟨p2, 0, none⟩) (j + 1) cap2))
            clear hC2 hb2 hS2 hS c2 c2f c2' c2f' e2 a0 a1 own2 g2 at2 hne2
            go_wp2_with fail
            go_roundw
            case rel => exact ⟨j + 1, _, by omega, by go_num, HC2.out, Hb2.out⟩
            case measure => simp [intOf]; omega
          · go_simp
            refine hK.out _ _ hS9 (fun _ => ?_)
            clear K hK
            try simp only [Act.put, List.getElem_toArray, List.getElem_cons_zero, List.getElem_cons_succ, List.setIfInBounds_toArray, List.set_cons_zero, List.set_cons_succ]
            refine wpAnyH_ready (rs := [1]) (by kernel_rfl) (by simp) ?_
            refine AllReadyH.cons rfl (fun K hK => ?_) AllReadyH.nil
            go_simp
            refine hK.out _ _ hS9 (fun _ => ?_)
            clear K hK
            try simp only [Act.put, List.getElem_toArray, List.getElem_cons_zero, List.getElem_cons_succ, List.setIfInBounds_toArray, List.set_cons_zero, List.set_cons_succ]
            refine wpAnyH_ready (rs := [22]) (by kernel_rfl) (by simp) ?_
            refine AllReadyH.cons rfl (fun K hK => ?_) AllReadyH.nil
            rw [if_pos (by kernel_rfl)]
            refine wp_append1 (.tmp 36) (.tmp 56) 57 rfl (wo.heap.size + 1) 60 i0 (.agg #[.string ⟨#[]⟩, .string ⟨#[]⟩]) 2 32 Tryz.underlying57 Hi.out Hz0.out Hz1.out Hz2.out (by rfl) (by decide) vf j fl Hown8.out rfl [.string ⟨f1.name.toArray⟩, .string ⟨f1.text.toArray⟩] rfl rfl rfl (by simp [Value.oneCell']) (by unfold maxLen; omega) (by omega) hbase8 ?_
            intro v2 w2 own2 g2 at2
            obtain ⟨p2, cap2, rfl, hp2, hq2⟩ := own2.form (Nat.succ_pos _)
            have hC2 := HC8.out.more (f := f1) Hrep.out (by rw [htl]; exact own2) g2
            rw [← Htk.out] at hC2
            have hne2 : ∀ q : Nat, q < wo.heap.size → vf.ownBlock ≠ some q := fun q hq e => by have := (Hown8.out.lt q e).1; omega
            have hS2 := And.intro ((grown_cell g2 hlt1 (hne2 b hbo) (off + k * 3 + 2)).trans hS.1) (And.intro ((grown_cell g2 hlt3 (hne2 b3 hbo3) (off3 + j * 2)).trans hS.2.1) ((grown_cell g2 hlt3 (hne2 b3 hbo3) (off3 + j * 2 + 1)).trans hS.2.2))
            have c2' := (grown_cell g2 HC8.out.lt (fun e => by have := (Hown8.out.lt _ e).1; omega) 2).trans HC8.out.cv
            have c2f' := (grown_frozen g2 HC8.out.lt (fun e => by have := (Hown8.out.lt _ e).1; omega) 2).trans HC8.out.free
            have hb2 : Below wo.heap.size wo w2 := Hb8.out.grown g2 (by have := Hb8.out.size; omega) (fun q e => by have := (Hown8.out.lt q e).1; omega)
            refine hK.out _ _ hS2 (fun _ => ?_)
            clear K hK
            try simp only [Act.put, List.getElem_toArray, List.getElem_cons_zero, List.getElem_cons_succ, List.setIfInBounds_toArray, List.set_cons_zero, List.set_cons_succ]
            refine wpAnyH_take (i := 23) (v := .pointer (some ⟨wo.heap.size, 2, none⟩)) rfl (by kernel_rfl) (by kernel_rfl) (by kernel_rfl) (fun _ _ _ h => h) (Or.inl ⟨by kernel_rfl, fun W hW => by go_simp⟩) (by assumption) ?_
            try simp only [Act.put, List.getElem_toArray, List.getElem_cons_zero, List.getElem_cons_succ, List.setIfInBounds_toArray, List.set_cons_zero, List.set_cons_succ]
            refine wpAnyH_ready (rs := [24]) (by kernel_rfl) (by simp) ?_
            refine AllReadyH.cons rfl (fun K hK => ?_) AllReadyH.nil
            go_simp
            refine hK.out _ _ ⟨(World.cell?_setCell_other _ _ _ _ (fun e => by injection e with e; omega)).trans hS2.1, (World.cell?_setCell_other _ _ _ _ (fun e => by injection e with e; omega)).trans hS2.2.1, (World.cell?_setCell_other _ _ _ _ (fun e => by injection e with e; omega)).trans hS2.2.2⟩ (fun _ => ?_)
            clear K hK
            try simp only [Act.put, List.getElem_toArray, List.getElem_cons_zero, List.getElem_cons_succ, List.setIfInBounds_toArray, List.set_cons_zero, List.set_cons_succ]
            refine wpAnyH_done (by kernel_rfl) ?_ _
            have HC2 := Lib.hid hC2; have Hb2 := Lib.hid (hb2.setCell (p := ⟨wo.heap.size, 2, none⟩) (Nat.le_refl _) (.slice (some ⟨p2, 0, none⟩) (j + 1) cap2))
            clear hC2 hb2 hS2 hS c2 c2f c2' c2f' e2 a0 a1 own2 g2 at2 hne2
            go_wp2_with fail
            go_roundw
            case rel => exact ⟨j + 1, _, by omega, by go_num, HC2.out, Hb2.out⟩
            case measure => simp [intOf]; omega
        · have htk : x.fields.take j = x.fields := List.take_of_length_le (by omega)
          rw [htk] at HC
          obtain ⟨pv, nv, cv, rfl⟩ := HC.out.form
          obtain ⟨flf, hrow, hrf⟩ := HC.out.row
          have hO2 := HO.out.below (hb := Hbj.out)
          obtain ⟨flo, hown, hrep⟩ := hO2
          have hu3 : ∀ q, u3.ownBlock = some q → q < wo.heap.size := fun q hq => by obtain ⟨fl0, h0, _⟩ := HO.out; exact (h0.lt q hq).2
          have hsl : SliceIn (fun q => w.heap.size ≤ q ∧ u3.ownBlock ≠ some q) 2 RFld wr (.slice pv nv cv) x.fields :=
            SliceIn.own hrow hrf RFld.size rfl (fun q hq => ⟨by have := (hrow.lt q hq).1; omega, fun e => by have := hu3 q e; have := (hrow.lt q hq).1; omega⟩)
          obtain ⟨i0, hi, hz0, hz1, hz2⟩ := info_parts rent_info
          have hlen : (l.take k).length = k := by rw [List.length_take]; omega
          rw [hlen] at hown
          have c0 := HC.out.ck; have c1 := HC.out.cy
          have hbase : w.heap.size ≤ wr.heap.size := by have := Hbj.out.size; omega
          have htl : l.take (k + 1) = l.take k ++ [x] := by rw [List.take_add_one, Hx.out]; rfl
          have Hown := Lib.hid hown; have Hrep := Lib.hid hrep; have Hsl := Lib.hid hsl; have Hi := Lib.hid hi; have Hz0 := Lib.hid hz0; have Hz1 := Lib.hid hz1; have Hz2 := Lib.hid hz2; have Htl := Lib.hid htl; have Hlen := Lib.hid hlen
          have Hu3 := Lib.hid hu3
          clear hown hrep hsl hi hz0 hz1 hz2 hrow hrf htk htl hlen hu3 c2f hkl
          go_wp2_with (at_builtin; go_loud (refine wpList_append1 rfl (.tmp 59) (.tmp 61) 29 rfl w.heap.size 59 i0 (.agg #[.string ⟨#[]⟩, .string ⟨#[]⟩, .slice none 0 0]) 3 56 Tryz.underlying29 Hi.out Hz0.out Hz1.out Hz2.out (by rfl) (by decide) _ _ _ Hown.out rfl [.string ⟨x.kind.toArray⟩, .string ⟨x.key.toArray⟩, .slice pv nv cv] rfl rfl rfl (by simp [Value.oneCell']) (by unfold maxLen; omega) (by omega) hbase ?_); intro v2 w2 own2 g2 at2)
          go_roundw
          case rel =>
            refine ⟨k + 1, by omega, by go_num, ?_, ?_⟩
            · rw [Htl.out]
              exact Outs.more hbase Hrep.out Hsl.out (by rw [Hlen.out]; exact own2) g2 at2
            · exact Hbx.out.grown g2 hbase (fun q e => (Hown.out.lt q e).1)
          case measure => simp [intOf]; omega
    · go_wp2_with fail
      go_ret
      have h := HO.out
      rw [List.take_of_length_le (by omega)] at h
      exact ⟨_, rfl, h, Hb.out⟩
end Go.Proofs.YtanbcokkfbidbaaGreatDoor
