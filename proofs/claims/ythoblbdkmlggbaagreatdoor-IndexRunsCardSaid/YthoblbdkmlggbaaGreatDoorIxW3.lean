/- The walk of index.Pages. -/
import Derived.Test.YthoblbdkmlggbaaGreatDoorIxR
import Derived.Test.YthoblbdkmlggbaaGreatDoorWireW
import Derived.Lib.Join
import Derived.Laws.MakeOwn
import Derived.Laws.CopyRow
import Derived.Laws.IdiomCopy
set_option linter.unusedSimpArgs false
set_option linter.unusedVariables false
namespace Go.Proofs.YthoblbdkmlggbaaGreatDoor
open Go.RowKit
namespace Ix
def tot (l : List (List UInt8)) : Nat := (l.map fun s => s.length + 1).sum
theorem tot_nil : tot [] = 0 := rfl
theorem tot_cons (x : List UInt8) (l : List (List UInt8)) : tot (x :: l) = x.length + 1 + tot l := by simp [tot]
theorem tot_append (a b : List (List UInt8)) : tot (a ++ b) = tot a + tot b := by simp [tot]
theorem tot_take (l : List (List UInt8)) (k : Nat) : tot (l.take k) ≤ tot l := by
  conv => rhs; rw [← List.take_append_drop k l, tot_append]
  omega
theorem tot_drop (l : List (List UInt8)) (k : Nat) : tot (l.drop k) ≤ tot l := by
  conv => rhs; rw [← List.take_append_drop k l, tot_append]
  omega
theorem len_tot (l : List (List UInt8)) : l.length ≤ tot l := by
  induction l with
  | nil => exact Nat.le_refl _
  | cons x l ih => rw [tot_cons, List.length_cons]; omega
theorem mem_tot (l : List (List UInt8)) (x : List UInt8) (h : x ∈ l) : x.length + 1 ≤ tot l := by
  induction l with
  | nil => cases h
  | cons y l ih =>
    rw [tot_cons]
    cases h with
    | head => omega
    | tail _ h => have := ih h; omega
theorem lens_tot (l : List (List UInt8)) : Lib.lens l + l.length = tot l := by
  induction l with
  | nil => rfl
  | cons x l ih =>
    rw [tot_cons, List.length_cons, ← ih]
    simp [Lib.lens]; omega
theorem joinS_le (l : List (List UInt8)) (sep : List UInt8) : (Lib.join l sep).length ≤ tot l * (sep.length + 1) := by
  cases l with
  | nil => simp [Lib.join_nil]
  | cons x r =>
    rw [Lib.join_length]
    have h := lens_tot (x :: r)
    rw [List.length_cons] at h
    have h2 : sep.length * r.length ≤ sep.length * tot (x :: r) := Nat.mul_le_mul_left _ (by omega)
    rw [Nat.mul_succ, Nat.mul_comm (tot _)]
    omega

theorem join_lib : ∀ l : List (List UInt8), join l = Lib.join l [44, 32]
  | [] => rfl
  | [t] => by rw [Lib.join_one]; rfl
  | t :: u :: r => by
    have := join_lib (u :: r)
    unfold join
    rw [this, Lib.join_cons, Lib.join_cons]
    simp [Lib.joinTail]
/-- the first k follow one another -/
def Run (l : List Int) (k : Nat) : Prop := ∀ j, j + 1 < k → l[j + 1]! = l[j]! + 1
theorem runLen_of : ∀ (l : List Int) (k : Nat), 1 ≤ k → k ≤ l.length → Run l k → (k = l.length ∨ l[k]! ≠ l[k - 1]! + 1) → runLen l = k
  | [], k, h1, h2, _, _ => by simp at h2; omega
  | [a], k, h1, h2, _, _ => by simp at h2; have : k = 1 := by omega
                               subst this; rfl
  | a :: b :: r, k, h1, h2, hr, he => by
    by_cases hk : k = 1
    · subst hk
      rcases he with he | he
      · simp at he
      · simp at he
        unfold runLen
        simp [he]
    · have hb : b = a + 1 := by
        have := hr 0 (by omega)
        simpa using this
      have ih := runLen_of (b :: r) (k - 1) (by omega) (by simp at h2 ⊢; omega) (fun j hj => by
        have := hr (j + 1) (by omega)
        simpa using this) (by
        rcases he with he | he
        · left; simp at he ⊢; omega
        · right
          have e1 : k = (k - 1) + 1 := by omega
          have e2 : k - 1 = (k - 1 - 1) + 1 := by omega
          have h3 : (a :: b :: r)[k]! = (b :: r)[k - 1]! := by rw [e1]; simp
          have h4 : (a :: b :: r)[k - 1]! = (b :: r)[k - 1 - 1]! := by rw [e2]; simp
          rw [h3, h4] at he
          exact he)
      show (if b = a + 1 then runLen (b :: r) + 1 else 1) = k
      rw [if_pos hb, ih]; omega
theorem parts_len13 : ∀ (f : Nat) (l : List Int), ∀ t ∈ partsGo f l, t.length ≤ 13
  | 0, _, t, h => by simp [partsGo] at h
  | _ + 1, [], t, h => by simp [partsGo] at h
  | f + 1, a :: r, t, h => by
    rw [partsGo_cons] at h
    have h6 := dig_length
    split at h
    · rcases List.mem_cons.1 h with rfl | h
      · have := h6 a; have := h6 ((a :: r).getD (runLen (a :: r) - 1) 0)
        rw [List.length_append, List.length_cons]; omega
      · exact parts_len13 f _ t h
    · rcases List.mem_cons.1 h with rfl | h
      · have := h6 a; omega
      · exact parts_len13 f _ t h
theorem partsGo_length : ∀ (f : Nat) (l : List Int), (partsGo f l).length ≤ l.length
  | 0, _ => by simp [partsGo]
  | _ + 1, [] => by simp [partsGo]
  | f + 1, a :: r => by
    have hp := runLen_pos a r
    have hl := runLen_le (a :: r)
    rw [partsGo_cons]
    split
    · have := partsGo_length f ((a :: r).drop (runLen (a :: r)))
      simp at this hl ⊢; omega
    · have := partsGo_length f r
      simp; omega
theorem tot_13 : ∀ l : List (List UInt8), (∀ t ∈ l, t.length ≤ 13) → tot l ≤ 14 * l.length
  | [], _ => by simp [tot]
  | t :: r, h => by
    have h1 := h t (by simp)
    have h2 := tot_13 r (fun x hx => h x (List.mem_cons_of_mem _ hx))
    unfold tot at h2 ⊢
    simp at h2 ⊢; omega
end Ix
theorem ix_Join (sep : List UInt8) (l : List (List UInt8)) (v : Value) (S : Nat → Prop) (w : World) (hS : SliceIn S 1 RStr w v l) (hl : Ix.tot l ≤ 2000000) (hsp : sep.length ≤ 2) :
    Calls Tryz.prog 37 #[v, .string ⟨sep.toArray⟩] w fun e w' => e = .returned (.string ⟨(Lib.join l sep).toArray⟩) ∧ Below w.heap.size w w' := by
  have hjl := Ix.joinS_le l sep
  have hln := Ix.len_tot l
  obtain ⟨p, cap, rfl, hle, hm, hat⟩ := hS
  cases l with
  | nil =>
    refine (Tryz.strings_Join_none p cap _ _).mono ?_
    rintro e w1 ⟨rfl, hw⟩
    exact ⟨rfl, by rw [hw]; exact Below.refl _ _⟩
  | cons x0 r =>
    obtain ⟨b, off, vs0, rfl, _, hbw, _, _⟩ := hat 0 x0 rfl
    have hmap : ((x0 :: r).map fun s => (⟨s.toArray⟩ : ByteArray)).map (·.data.toList) = x0 :: r := by
      rw [List.map_map]
      conv => rhs; rw [← List.map_id (x0 :: r)]
      exact List.map_congr_left (fun _ _ => by simp)
    have hsd : (⟨sep.toArray⟩ : ByteArray).data.toList = sep := by simp
    have hsq : Ix.tot (x0 :: r) * (sep.length + 1) ≤ 2000000 * 3 := Nat.mul_le_mul hl (by omega)
    have h1 := Tryz.strings_Join b off cap ((x0 :: r).map fun s => (⟨s.toArray⟩ : ByteArray)) ⟨sep.toArray⟩ w (fun j x hx => by
      rw [List.getElem?_map] at hx
      cases hs : (x0 :: r)[j]? with
      | none => rw [hs] at hx; cases hx
      | some s =>
        rw [hs] at hx
        obtain rfl := Option.some.inj hx
        obtain ⟨b', off', vs, he, _, _, hR, hc⟩ := hat j s hs
        simp only [Option.some.injEq, Addr.mk.injEq, and_true] at he
        obtain ⟨rfl, rfl⟩ := he
        have hR : vs = _ := hR
        subst hR
        have := hc 0 _ rfl
        rwa [Nat.mul_one, Nat.add_zero] at this) hbw (by rw [List.length_map]; omega) (by rw [List.length_map]; exact hle) (by rw [hmap, hsd]; omega)
    rw [hmap, hsd] at h1
    simp only [List.length_map] at h1
    exact h1
theorem SliceIn.suf {α : Type} {S : Nat → Prop} {size : Nat} {R : α → List Value → Prop} {w : World} {b o n cap : Nat} {xs : List α} (h : SliceIn S size R w (.slice (some ⟨b, o, none⟩) n cap) xs) (k : Nat) (hk : k ≤ xs.length) : SliceIn S size R w (.slice (some ⟨b, o + k * size, none⟩) (n - k) (cap - k)) (xs.drop k) := by
  obtain ⟨p1, cap1, hv, h1, h2, h3⟩ := h
  simp only [Value.slice.injEq] at hv
  obtain ⟨rfl, rfl, rfl⟩ := hv
  refine ⟨_, cap - k, by rw [List.length_drop], by rw [List.length_drop]; omega, by omega, fun i x hi => ?_⟩
  rw [List.getElem?_drop] at hi
  obtain ⟨b', off, vs, hp, hS, hlt, hR, hc⟩ := h3 (k + i) x hi
  simp only [Option.some.injEq, Addr.mk.injEq, and_true] at hp
  obtain ⟨rfl, rfl⟩ := hp
  refine ⟨_, _, vs, rfl, hS, hlt, hR, fun j u hj => ?_⟩
  have := hc j u hj
  rw [show o + k * size + (i * size + j) = o + ((k + i) * size + j) by rw [Nat.add_mul]; omega]
  exact this
theorem int_cell (n : Int) : (Value.int .i64 n).oneCell' = true := rfl
theorem pg_copied (l : List Int) (pa : Option Addr) (cap : Nat) (S : Nat → Prop) (w : World) (hS : SliceIn S 1 RInt w (.slice pa l.length cap) l) (hl : l.length ≤ 100000) :
    ∃ W1 W2 : World, (Instr.makeSlice 22 (.int .i64 (l.length : Int)) (.int .i64 (l.length : Int))).run Tryz.prog w = .ok (.slice (some ⟨w.heap.size, 0, none⟩) l.length l.length) W1 ∧
      (∀ ty, (Builtin.copy_ #[22, 22] ty #[.slice (some ⟨w.heap.size, 0, none⟩) l.length l.length, .slice pa l.length cap]).run Tryz.prog W1 = .ok (.int .i64 (l.length : Int)) W2) ∧
      Sort.Holds (Value.int .i64) W2 w.heap.size 0 l.toArray ∧ Below w.heap.size w W2 ∧ w.heap.size < W2.heap.size := by
  obtain ⟨i, hi, hz, hs, hb⟩ := info_parts int_info
  have h1 := run_make w 22 3 i (.int .i64 0) Tryz.underlying22 hi hz .i64 .i64 (l.length : Int) (l.length : Int) (by omega) (Int.le_refl _) (by rw [hb]; omega) (by omega)
  simp only [Int.toNat_natCast, hs, Nat.mul_one] at h1
  obtain ⟨W1, hW1⟩ : ∃ W, W = w.alloc (.cells (madeCells (Value.int .i64 0).cells l.length) 3) := ⟨_, rfl⟩
  rw [← hW1] at h1
  have hg : W1.heap[w.heap.size]? = some (.cells (madeCells (Value.int .i64 0).cells l.length) 3 (0, 0)) := by rw [hW1]; exact heap_alloc_new w _
  have hsz : (madeCells (Value.int .i64 0).cells l.length).size = l.length := size_madeCells _ _
  have hbw : Below w.heap.size w W1 := by rw [hW1]; exact below_new _ _
  obtain ⟨p1, c1, hv, h2, h3, hat⟩ := hS
  simp only [Value.slice.injEq] at hv
  obtain ⟨rfl, _, rfl⟩ := hv
  have hlt : w.heap.size < W1.heap.size := by rw [hW1]; exact lt_alloc w _
  cases hl0 : l with
  | nil =>
    subst hl0
    refine ⟨W1, W1, h1, fun ty => ?_, fun j hj => by simp at hj, hbw, hlt⟩
    exact run_copy_none W1 22 22 ty 3 _ _ 0 0 0 cap Tryz.underlying22 (by rw [hi]; simp [hs]) rfl
  | cons x r =>
    rw [← hl0]
    obtain ⟨b, off, vs, rfl, _, hbl, _, _⟩ := hat 0 x (by rw [hl0]; rfl)
    have hsrc : ∀ j v, (l.map (Value.int .i64))[j]? = some v → W1.cell? ((⟨b, off, none⟩ : Addr).add j) = some v := by
      intro j v hj
      rw [List.getElem?_map] at hj
      cases hlj : l[j]? with
      | none => rw [hlj] at hj; simp at hj
      | some y =>
        rw [hlj] at hj
        simp only [Option.map_some, Option.some.injEq] at hj
        subst hj
        obtain ⟨b', off', vs', hp, _, hb', hR, hc⟩ := hat j y hlj
        simp only [Option.some.injEq, Addr.mk.injEq, and_true] at hp
        obtain ⟨rfl, rfl⟩ := hp
        have hR : vs' = _ := hR
        subst hR
        have := hc 0 _ rfl
        rw [Nat.mul_one, Nat.add_zero] at this
        rw [Addr.add_lit]
        exact (hbw.cell (p := ⟨b, off + j, none⟩) hb').trans this
    have h4 : ∀ ty, _ := fun ty => run_copy_row (P := Tryz.prog) W1 22 22 ty 3 w.heap.size 0 l.length l.length ⟨b, off, none⟩ l.length cap (madeCells (Value.int .i64 0).cells l.length) 3 (l.map (Value.int .i64)) Tryz.underlying22 (by rw [hi]; simp [hs]) hg (by simp) hsrc (by rw [hsz]; simp) (fun v hv => by obtain ⟨n, _, rfl⟩ := List.mem_map.1 hv; rfl)
    obtain ⟨W2, hW2⟩ : ∃ W, W = W1.setRow w.heap.size ((madeCells (Value.int .i64 0).cells l.length).toList.take 0 ++ l.map (Value.int .i64) ++ (madeCells (Value.int .i64 0).cells l.length).toList.drop (0 + (l.map (Value.int .i64)).length)).toArray := ⟨_, rfl⟩
    have hrow : ((madeCells (Value.int .i64 0).cells l.length).toList.take 0 ++ l.map (Value.int .i64) ++ (madeCells (Value.int .i64 0).cells l.length).toList.drop (0 + (l.map (Value.int .i64)).length)).toArray = (l.map (Value.int .i64)).toArray := by
      rw [List.take_zero, List.nil_append, List.drop_of_length_le (by simp [hsz]), List.append_nil]
    rw [hrow] at hW2
    have hh : W2.heap[w.heap.size]? = some (.cells (l.map (Value.int .i64)).toArray 3 (0, 0)) := by rw [hW2]; exact setRow_heap W1 _ _ _ _ _ hg
    have hb2 : Below w.heap.size W1 W2 := by
      rw [hW2]
      refine ⟨rfl, rfl, rfl, by simp [World.setRow], fun k hk => ?_⟩
      unfold World.setRow
      show (W1.heap.modify _ _)[k]? = _
      rw [Array.getElem?_modify, if_neg (by omega)]
    refine ⟨W1, W2, h1, fun ty => ?_, fun j hj => ?_, hbw.trans hb2, Nat.lt_of_lt_of_le hlt hb2.size⟩
    · have := h4 ty
      rw [hrow, ← hW2] at this
      simpa [goInt] using this
    · have hj' : j < l.length := by simpa using hj
      refine ⟨?_, ?_⟩
      · rw [cell_of_row _ _ _ _ _ _ hh]
        rw [getElem!_pos _ j (by simpa using hj')]
        simp [hj']
      · exact frozen_of_row _ _ _ _ _ hh

theorem op_append1 {P : Program} {o : Oper} {a : Act} {w1 : World} {K : Act → World → Prop} {Q : Exit → Act → World → Prop} (s x : Operand) (t : TypeId)
    (ho : o.op = .call { callee := .builtin .append, args := #[s, x], argTypes := #[t, t] })
    (base : Nat) (e : TypeId) (i : TypeInfo) (z : Value) (size bytes : Nat) (ht : P.underlying t = some (.slice e)) (hi : P.info? e = some i) (hz : i.zero = some z)
    (hsize : i.size = size) (hby : i.bytes = bytes) (hzs : z.cells.size = size) (hsz : 0 < size)
    (v : Value) (n : Nat) (xs : List Value) (hown : w1.ownsRow base e size v n xs) (hs : a.eval s = v)
    (news : List Value) {g : Nat} (hx : a.eval x = .slice (some ⟨g, 0, none⟩) 1 1) (hg : g = w1.heap.size) (hl : news.length = size) (h1 : ∀ u ∈ news, u.oneCell' = true)
    (h63 : n + 1 ≤ maxLen) (hbytes : (n + 1) * bytes ≤ 140737488355328) (hbase : base ≤ w1.heap.size)
    (h : ∀ v' w', w'.ownsRow base e size v' (n + 1) (xs ++ news) → w1.grownBy w' v.ownBlock → (v'.ownBlock = v.ownBlock ∨ v'.ownBlock = some (w1.heap.size + 1)) → K (a.put o.dst v') w') :
    o.wp P a (w1.alloc (.cells news.toArray e)) K Q := by
  subst hg
  obtain ⟨v', w', hr, h2, h3, _, h4⟩ := run_append_own_at (P := P) (w1.alloc (.cells news.toArray e)) base t o.type e i z size bytes ht hi hz hsize hby hzs hsz v n xs (hown.alloc _) ⟨w1.heap.size, 0, none⟩ 1 1 news
    (by rw [hl]; simp) (fun j u hu => by
      have hadd : (⟨w1.heap.size, 0, none⟩ : Addr).add j = ⟨w1.heap.size, j, none⟩ := by unfold Addr.add; split <;> simp_all
      rw [hadd, cell_of_row _ _ j _ _ _ (heap_alloc_new w1 _)]
      simpa using hu) h1 h63 hbytes (by simp; omega)
  unfold Oper.wp execOp
  simp only [ho, resolve, invoke, builtin, Sem.run_bind, Sem.run_pure, Result.andThen_ok, List.map_toArray, List.map_cons, List.map_nil, hs, hx, hr]
  exact (h v' w' h2 (grown_trans (World.grownBy_alloc w1 _ _) h3) (by simpa using h4))
def sliceN : Value → Nat | .slice _ n _ => n | _ => 0
theorem ints_at {g : Nat} {W : World} {o n c : Nat} {xs : List Int} (h : SliceIn (fun b => b = g) 1 RInt W (.slice (some ⟨g, o, none⟩) n c) xs) {k : Nat} (hk : k < xs.length) : W.cell? ⟨g, o + k, none⟩ = some (.int .i64 xs[k]!) := by
  obtain ⟨p, cap, hv, _, _, hat⟩ := h
  simp only [Value.slice.injEq] at hv
  obtain ⟨rfl, _, _⟩ := hv
  obtain ⟨b, off, vs, hp, _, _, hR, hc⟩ := hat k xs[k] (List.getElem?_eq_getElem hk)
  simp only [Option.some.injEq, Addr.mk.injEq, and_true] at hp
  obtain ⟨rfl, rfl⟩ := hp
  have hR : vs = _ := hR
  subst hR
  have := hc 0 _ rfl
  rw [Nat.mul_one, Nat.add_zero] at this
  rw [getElem!_pos xs k hk]
  exact this
theorem ints_keep {g B : Nat} {W W' : World} {v : Value} {xs : List Int} (h : SliceIn (fun b => b = g) 1 RInt W v xs) (hb : Below B W W') (hg : g < B) : SliceIn (fun b => b = g) 1 RInt W' v xs :=
  h.kept (fun _ h => h) hb.size (fun b e _ => hb.block b (by rw [e]; exact hg)) (fun _ _ _ h => h)
theorem ints_of_holds {W : World} {g c : Nat} {zs : List Int} (h : Sort.Holds (Value.int .i64) W g 0 zs.toArray) (hc : zs.length ≤ c) (hm : c ≤ maxLen) (hg : g < W.heap.size) : SliceIn (fun b => b = g) 1 RInt W (.slice (some ⟨g, 0, none⟩) zs.length c) zs := by
  refine ⟨_, c, rfl, hc, hm, fun i x hi => ⟨g, 0, [.int .i64 x], rfl, rfl, hg, rfl, fun j u hj => ?_⟩⟩
  obtain ⟨hlt, e⟩ := List.getElem?_eq_some_iff.1 hi
  have hj0 : j = 0 := by have := (List.getElem?_eq_some_iff.1 hj).1; simp at this; exact this
  subst hj0
  simp at hj
  subst hj
  have := (h i (by simpa using hlt)).1
  rw [getElem!_pos _ i (by simpa using hlt)] at this
  simp only [List.getElem_toArray, e, Nat.zero_add] at this
  rw [Nat.mul_one, Nat.add_zero, Nat.zero_add]
  exact this
/-- what is left of the row behind the first k -/
theorem ints_suf {g o c : Nat} {W : World} {xs : List Int} (h : SliceIn (fun b => b = g) 1 RInt W (.slice (some ⟨g, o, none⟩) xs.length c) xs) (k : Nat) (hk : k ≤ xs.length) :
    ∃ o', (if c = k then some (⟨g, o, none⟩ : Addr) else some ⟨g, o + k, none⟩) = some ⟨g, o', none⟩ ∧ SliceIn (fun b => b = g) 1 RInt W (.slice (some ⟨g, o', none⟩) (xs.drop k).length (c - k)) (xs.drop k) := by
  obtain ⟨p1, c1, hv, h1, h2, h3⟩ := id h
  simp only [Value.slice.injEq] at hv
  obtain ⟨_, _, rfl⟩ := hv
  by_cases hc : c = k
  · have hd : xs.drop k = [] := List.drop_of_length_le (by omega)
    refine ⟨o, if_pos hc, ?_⟩
    rw [hd]
    exact ⟨_, _, rfl, Nat.zero_le _, by omega, fun i x hi => by simp at hi⟩
  · refine ⟨o + k, if_neg hc, ?_⟩
    have := h.suf k hk
    rw [List.length_drop]
    rwa [Nat.mul_one] at this
set_option maxRecDepth 100000 in
set_option maxHeartbeats 1600000 in
theorem ix_Pages (l : List Int) (v : Value) (S : Nat → Prop) (w : World) (hS : SliceIn S 1 RInt w v l) (hl : l.length ≤ 100000) (hL : Laid01 w) :
    Calls Tryz.prog 13 #[v] w fun e w' => e = .returned (.string ⟨(Ix.text l).toArray⟩) ∧ Below w.heap.size w w' := by
  obtain ⟨i0, hi, hz0, hz1, hz2⟩ := info_parts str_info
  have Hi := Lib.hid hi; have Hz0 := Lib.hid hz0; have Hz1 := Lib.hid hz1; have Hz2 := Lib.hid hz2; clear hi hz0 hz1 hz2
  obtain ⟨pa, cap, rfl⟩ : ∃ pa cap, v = .slice pa l.length cap := by
    obtain ⟨pa, cap, h, _⟩ := hS
    exact ⟨pa, cap, h⟩
  obtain ⟨W1, W2, hmk, hcp, hH2, hB2, hg2⟩ := pg_copied l pa cap S w hS hl
  have hcp3 := hcp 3
  have HH2 := Lib.hid hH2; have HB2 := Lib.hid hB2; have Hg2 := Lib.hid hg2; have Hl := Lib.hid hl; have HL := Lib.hid hL
  clear hH2 hB2 hg2 hl hL hS hcp
  generalize hg : w.heap.size = g at *
  go_enter Tryz.func13, Tryz.ntmps13
  have hsp := Ix.sorted_pages l
  have Hsp := Lib.hid hsp; clear hsp
  go_wp2_with (first
    | (go_at_call 32; refine (pg_delete g l.length l _ HH2.out (by have := Hl.out; omega) (Nat.le_refl _)).mono ?_; rintro e w3 ⟨rfl, h3, b3, z3⟩; have H3 := Lib.hid h3; have B3 := Lib.hid b3; have Z3 := Lib.hid z3; clear h3 b3 z3)
    | (go_at_call 34; refine (pg_sort g l.length (l.filter Ix.page) _ H3.out (by have := Hl.out; have := List.length_filter_le Ix.page l; omega) (by have := Hg2.out; have := Z3.out; omega)).mono ?_; rintro e w4 ⟨rfl, h4, b4⟩; have H4 := Lib.hid h4; have B4 := Lib.hid b4; clear h4 b4)
    | (go_at_call 35; have hc5 := pg_compact g l.length _ _ H4.out (by have := Hl.out; have := List.length_filter_le Ix.page l; rw [List.length_mergeSort]; omega) (by have := List.length_filter_le Ix.page l; rw [List.length_mergeSort]; omega); rw [List.length_mergeSort, Hsp.out] at hc5; refine hc5.mono ?_; clear hc5; rintro e w5 ⟨rfl, h5, b5, z5⟩; have H5 := Lib.hid h5; have B5 := Lib.hid b5; have Z5 := Lib.hid z5; clear h5 b5 z5))
  have hPl : (Ix.rising [] l).length ≤ l.length := by have := Ix.rising_length l []; simpa using this
  have hsz5 : g < w5.heap.size := by have := Hg2.out; have := Z3.out; have := B4.out.size; have := Z5.out; omega
  have hBw5 : Below g w w5 := ((HB2.out.trans B3.out).trans B4.out).trans B5.out
  have hI5 := ints_of_holds H5.out hPl (by have := Hl.out; unfold maxLen; omega) hsz5
  have hPg := Ix.rising_page l
  have htx : Ix.text l = Lib.join (Ix.parts (Ix.rising [] l)) [44, 32] := Ix.join_lib _
  have hP13 := Ix.parts_len13 (Ix.rising [] l).length (Ix.rising [] l)
  have hPn := Ix.partsGo_length (Ix.rising [] l).length (Ix.rising [] l)
  have HI5 := Lib.hid hI5; have HBw5 := Lib.hid hBw5; have Hsz5 := Lib.hid hsz5; have HPl := Lib.hid hPl; have HPg := Lib.hid hPg; have Htx := Lib.hid htx; have HP13 := Lib.hid hP13; have HPn := Lib.hid hPn
  clear hI5 hBw5 hsz5 hPl hPg htx hmk hcp3 HH2 HB2 Hg2 H3 B3 Z3 H4 B4 H5 B5 Z5 hP13 hPn Hsp
  generalize hP : Ix.rising [] l = P at *
  generalize hB0 : w5.heap.size = B0 at *
  have hPln : P.length ≤ 100000 := by have := Hl.out; have := HPl.out; omega
  have HPln := Lib.hid hPln; clear hPln
  go_loopw [3, 4] (fun ov pv wr => ∃ (o c : Nat) (rest : List Int) (done : List (List UInt8)), ov = .slice (some ⟨g, o, none⟩) rest.length c ∧ SliceIn (fun b => b = g) 1 RInt wr (.slice (some ⟨g, o, none⟩) rest.length c) rest ∧ OwnL B0 9 1 RStr wr pv done ∧ done ++ Ix.parts rest = Ix.parts P ∧ rest.length + done.length ≤ P.length ∧ (∀ x ∈ rest, 1 ≤ x ∧ x ≤ 999999) ∧ Below B0 w5 wr) (fun ov _ _ => sliceN ov)
  case atStart => exact ⟨0, l.length, P, [], rfl, HI5.out, OwnL.nil _ _ _ _ _, rfl, by simp, HPg.out, Below.refl _ _⟩
  case round =>
    obtain ⟨o, c, rest, done, rfl, hI, hO, hd, hn, hpg, hb⟩ := hrel
    have hszr : B0 ≤ wr.heap.size := by have := hb.size; omega
    obtain ⟨pp, cpp, hpv⟩ := hO.form
    subst hpv
    have HI := Lib.hid hI; have HO := Lib.hid hO; have Hd := Lib.hid hd; have Hn := Lib.hid hn; have Hb := Lib.hid hb; have Hszr := Lib.hid hszr; have Hpg := Lib.hid hpg
    clear hI hO hd hn hb hszr hpg
    cases rest with
    | nil =>
      have hdone : done = Ix.parts P := by have := Hd.out; rw [Ix.parts_nil, List.append_nil] at this; exact this
      have Hdone := Lib.hid hdone; clear hdone
      have htot : Ix.tot done ≤ 2000000 := by
        have h1 := Ix.tot_13 done (by rw [Hdone.out]; exact HP13.out)
        have h2 : done.length ≤ P.length := by rw [Hdone.out]; exact HPn.out
        have := HPln.out
        omega
      have Htot := Lib.hid htot; clear htot
      go_wp2_with (go_at_call 37; refine (ix_Join [44, 32] done _ (fun _ => True) _ (HO.out.slice RStr.size _ (fun _ _ => trivial)) Htot.out (by decide)).mono ?_; rintro e w9 ⟨rfl, h9⟩; have H9 := Lib.hid h9; clear h9)
      go_ret
      refine ⟨by rw [Htx.out, Hdone.out]; rfl, ?_⟩
      exact HBw5.out.trans ((Hb.out.trans (H9.out.mono Hszr.out)).mono (by have := Hsz5.out; omega))
    | cons a r =>
      obtain ⟨rs, hrs⟩ : ∃ rs, rs = a :: r := ⟨_, rfl⟩
      rw [← hrs] at HI Hd Hn Hpg
      rw [← hrs]
      have Hrs := Lib.hid hrs; clear hrs
      have hcap : rs.length ≤ c ∧ c ≤ maxLen := by
        obtain ⟨p1, c1, hv, h1, h2, _⟩ := HI.out
        simp only [Value.slice.injEq] at hv
        obtain ⟨_, _, rfl⟩ := hv
        exact ⟨h1, h2⟩
      obtain ⟨n, hnl⟩ : ∃ n, n = rs.length := ⟨_, rfl⟩
      rw [← hnl] at hcap
      rw [← hnl]
      have hn1 : 1 ≤ n := by rw [hnl, Hrs.out]; simp
      have hnm : n ≤ 100000 := by have := Hn.out; have := HPln.out; omega
      have hnI : (0 : Int) < (n : Int) := by omega
      have hnI2 : (n : Int) ≤ 100000 := by omega
      have Hnl := Lib.hid hnl; have Hcap := Lib.hid hcap; have Hn1 := Lib.hid hn1; have Hnm1 := Lib.hid hnm
      clear hnl hcap hn1 hnm
      go_upto_block 2 with fail
      go_cut [5, 20] (fun v _ W => ∃ K : Nat, v = .int .i64 (K : Int) ∧ K = Ix.runLen rs ∧ Below wr.heap.size wr W)
      case first =>
        go_wp2_with fail
        go_loopw [5] (fun nv wk => ∃ k : Nat, 1 ≤ k ∧ k ≤ n ∧ nv = .int .i64 (k : Int) ∧ Ix.Run rs k ∧ Below wr.heap.size wr wk) (fun nv _ => n - (intOf nv).toNat)
        case atStart => exact ⟨1, Nat.le_refl _, Hn1.out, rfl, fun j hj => by omega, Below.refl _ _⟩
        case round =>
          rename_i wk
          obtain ⟨k, hk1, hkn, rfl, hrun, hbk⟩ := hrel
          have Hrun := Lib.hid hrun; have Hbk := Lib.hid hbk; have Hk1 := Lib.hid hk1; have Hkn := Lib.hid hkn
          clear hrun hbk hk1 hkn
          by_cases hlt : k < n
          · have hx := ints_at (ints_keep HI.out Hbk.out (by have := Hszr.out; have := Hsz5.out; omega)) (k := k) (by have := Hnl.out; omega)
            have hy := ints_at (ints_keep HI.out Hbk.out (by have := Hszr.out; have := Hsz5.out; omega)) (k := k - 1) (by have := Hnl.out; omega)
            obtain ⟨k0, hk0⟩ : ∃ k0, k0 = k - 1 := ⟨_, rfl⟩
            have hym : rs[k0]! ∈ rs := by rw [getElem!_pos rs k0 (by have := Hnl.out; omega)]; exact List.getElem_mem _
            have hyb := Hpg.out _ hym
            rw [← hk0] at hy
            obtain ⟨x, hxe⟩ : ∃ x, x = rs[k]! := ⟨_, rfl⟩
            obtain ⟨y, hye⟩ : ∃ y, y = rs[k0]! := ⟨_, rfl⟩
            rw [← hxe] at hx
            rw [← hye] at hy hyb
            have Hxe := Lib.hid hxe; have Hye := Lib.hid hye; have Hk0 := Lib.hid hk0
            have hltI : (k : Int) < (n : Int) := by omega
            have hk0n : (k0 : Int) < (n : Int) := by omega
            have hk00 : ¬ (k0 : Int) < 0 := by omega
            have hw1 : IntKind.i64.wrap ((k : Int) - 1) = (k0 : Int) := by rw [IntWalk.i64_in _ (by have := Hk1.out; omega)]; have := Hk1.out; omega
            have hw2 : IntKind.i64.wrap (y + 1) = y + 1 := IntWalk.i64_in _ (by omega)
            obtain ⟨k2, hk2⟩ : ∃ k2, k2 = k + 1 := ⟨_, rfl⟩
            have hw3 : IntKind.i64.wrap ((k : Int) + 1) = (k2 : Int) := by rw [IntWalk.i64_in _ (by have := Hnm1.out; omega)]; omega
            have Hk2 := Lib.hid hk2; have Hlt := Lib.hid hlt
            clear hxe hye hk0 hym hyb hlt hk2
            by_cases hxy : x = y + 1
            · have hd1 : (x == y + 1) = true := by simp [hxy]
              have Hxy := Lib.hid hxy; clear hxy
              go_upto_region 9 with fail
              go_quiet (fail)
              go_wp2_with fail
              go_roundw
              case rel =>
                refine ⟨k2, by have := Hk2.out; omega, by have := Hk2.out; have := Hlt.out; omega, rfl, fun j hj => ?_, below_drewN Hbk.out _⟩
                by_cases hjk : j + 1 < k
                · exact Hrun.out j hjk
                · have h1 := Hk2.out; have h2 := Hk0.out; have h3 := Hk1.out
                  have e1 : j + 1 = k := by omega
                  have e2 : j = k0 := by omega
                  rw [e1, e2, ← Hxe.out, ← Hye.out]; exact Hxy.out
              case measure => have := Hlt.out; have := Hk2.out; simp [intOf]; omega
            · have hd1 : (x == y + 1) = false := by simp [hxy]
              have Hxy := Lib.hid hxy; clear hxy
              go_upto_region 9 with fail
              go_quiet (fail)
              go_wp2_with fail
              go_meet
              refine ⟨k, rfl, (Ix.runLen_of rs k Hk1.out (by have := Hkn.out; have := Hnl.out; omega) Hrun.out (.inr ?_)).symm, below_drewN Hbk.out _⟩
              have h2 := Hk0.out
              rw [← h2, ← Hxe.out, ← Hye.out]; exact Hxy.out
          · have hltI : ¬ (k : Int) < (n : Int) := by omega
            have hd0 : decide ((k : Int) < (n : Int)) = false := decide_eq_false hltI
            have Hlt := Lib.hid hlt; clear hlt
            go_upto_region 9 with fail
            go_quiet (fail)
            go_wp2_with fail
            go_meet
            exact ⟨k, rfl, (Ix.runLen_of rs k Hk1.out (by have := Hkn.out; have := Hnl.out; omega) Hrun.out (.inl (by have := Hkn.out; have := Hnl.out; have := Hlt.out; omega))).symm, below_drewN Hbk.out _⟩
      case rest =>
        obtain ⟨K, rfl, hK, hbk⟩ := hcut
        have hKn : 1 ≤ K ∧ K ≤ n := by
          have h1 := Ix.runLen_pos a r
          have h2 := Ix.runLen_le rs
          have h3 := Hrs.out
          have h4 := Hnl.out
          rw [hK, h4]
          exact ⟨by rw [h3]; exact h1, h2⟩
        have hgB : g < wr.heap.size := by have := Hszr.out; have := Hsz5.out; omega
        have hIc := ints_keep HI.out hbk hgB
        have hOc := HO.out.below hbk
        obtain ⟨fl, hown, hrep⟩ := hOc
        have hbc : Below B0 w5 wc := Hb.out.trans (hbk.mono Hszr.out)
        have hszc : B0 ≤ wc.heap.size := Nat.le_trans Hszr.out hbk.size
        have hLc : Laid01 wc := HL.out.below ((hg ▸ HBw5.out).trans (hbc.mono (by have := Hsz5.out; omega)))
        have e0 := ints_at hIc (k := 0) (by have := Hnl.out; have := Hn1.out; omega)
        have ea : rs[0]! = a := by rw [Hrs.out]; rfl
        rw [ea, Nat.add_zero] at e0
        have HK := Lib.hid hK; have HKn := Lib.hid hKn; have Hown := Lib.hid hown; have Hrep := Lib.hid hrep; have Hbc := Lib.hid hbc; have Hszc := Lib.hid hszc; have HLc := Lib.hid hLc; have HIc := Lib.hid hIc; have He0 := Lib.hid e0
        have Hnm := Lib.hid (show done.length + 1 ≤ maxLen by have := Hn.out; have := HPln.out; unfold maxLen; omega)
        have Hn47 := Lib.hid (show (done.length + 1) * 16 ≤ 140737488355328 by have := Hn.out; have := HPln.out; omega)
        clear hK hKn hgB hIc hown hrep hbc hszc hLc hbk ea e0
        by_cases h3 : 3 ≤ K
        · have h3I : (3 : Int) ≤ (K : Int) := by omega
          obtain ⟨K1, hK1⟩ : ∃ K1, K1 = K - 1 := ⟨_, rfl⟩
          have eK := ints_at HIc.out (k := K1) (by have := Hnl.out; have := HKn.out; omega)
          obtain ⟨b, hbe⟩ : ∃ b, b = rs[K1]! := ⟨_, rfl⟩
          rw [← hbe] at eK
          have hwk : IntKind.i64.wrap ((K : Int) - 1) = (K1 : Int) := by rw [IntWalk.i64_in _ (by have := HKn.out; have := Hnm1.out; omega)]; omega
          have hK1n : (K1 : Int) < (n : Int) := by have := HKn.out; omega
          have hK10 : ¬ (K1 : Int) < 0 := by omega
          have hKnI : (K : Int) ≤ (n : Int) := by have := HKn.out; omega
          have hK0I : ¬ (K : Int) < 0 := by omega
          have hnc : (n : Int) ≤ (c : Int) := by have := Hcap.out; omega
          have HeK := Lib.hid eK; have Hbe := Lib.hid hbe; have HK1 := Lib.hid hK1; have H3 := Lib.hid h3
          clear eK hbe hK1 h3
          obtain ⟨D, hD⟩ : ∃ D, D = Ix.dig a := ⟨_, rfl⟩
          obtain ⟨F, hF⟩ : ∃ F, F = Ix.dig b := ⟨_, rfl⟩
          have hDl : D.length ≤ 6 := by rw [hD]; exact Ix.dig_length a
          have hFl : F.length ≤ 6 := by rw [hF]; exact Ix.dig_length b
          have hs1 : ¬ 9223372036854775807 < D.length + 1 := by omega
          have hs2 : ¬ 9223372036854775807 < (D ++ [45]).length + F.length := by rw [List.length_append]; simp; omega
          have ha1 : (⟨D.toArray⟩ : ByteArray) ++ ⟨#[45]⟩ = ⟨(D ++ [45]).toArray⟩ := append_data D [45]
          have ha2 : (⟨(D ++ [45]).toArray⟩ : ByteArray) ++ ⟨F.toArray⟩ = ⟨(D ++ [45] ++ F).toArray⟩ := append_data (D ++ [45]) F
          obtain ⟨M, hM⟩ : ∃ M, M = D ++ [45] := ⟨_, rfl⟩
          rw [← hM] at hs2 ha1 ha2
          obtain ⟨T, hT⟩ : ∃ T, T = M ++ F := ⟨_, rfl⟩
          rw [← hT] at ha2
          have HD := Lib.hid hD; have HF := Lib.hid hF; have HM := Lib.hid hM; have HT := Lib.hid hT
          clear hD hF hM hT hDl hFl
          go_upto_region 12 with fail
          refine wp_region_any (by kernel_rfl) ?_
          change wpAny _ _ _ _ _ _ _ (World.drew _)
          have E0 := Lib.hid (show wc.drew.cell? ⟨g, o, none⟩ = _ from He0.out)
          have EK := Lib.hid (show wc.drew.cell? ⟨g, o + K1, none⟩ = _ from HeK.out)
          have HB := Lib.hid Hbc.out.drew
          have HO1 := Lib.hid (own_below Hown.out (show Below wc.heap.size wc wc.drew from (Below.refl _ _).drew))
          have HL1 := Lib.hid (HLc.out.below (show Below wc.heap.size wc wc.drew from (Below.refl _ _).drew))
          have HI1 := Lib.hid (SliceIn.below' HIc.out (show Below wc.heap.size wc wc.drew from (Below.refl _ _).drew))
          have HS1 := Lib.hid (show B0 ≤ wc.drew.heap.size from Hszc.out)
          clear He0 HeK Hbc Hown HLc HIc Hszc
          generalize wc.drew = wd at *
          have hgB0 := Hsz5.out
          have hS0 := Below.refl B0 wd
          refine wpAny_of_held (S := fun W => Below B0 wd W) _ _ _ _ ?_
          refine wpAnyH_take (i := 0) (v := .slice pp done.length cpp) rfl (by kernel_rfl) (by kernel_rfl) (by kernel_rfl) (fun _ _ _ h => h) (Or.inl ⟨by kernel_rfl, fun W hW => by kernel_rfl⟩) (by assumption) ?_
          try simp only [Act.put, List.getElem_toArray, List.getElem_cons_zero, List.getElem_cons_succ, List.setIfInBounds_toArray, List.set_cons_zero, List.set_cons_succ]
          refine wpAnyH_take (i := 1) (v := .slice (some ⟨g, o, none⟩) n c) rfl (by kernel_rfl) (by kernel_rfl) (by kernel_rfl) (fun _ _ _ h => h) (Or.inl ⟨by kernel_rfl, fun W hW => by kernel_rfl⟩) (by assumption) ?_
          try simp only [Act.put, List.getElem_toArray, List.getElem_cons_zero, List.getElem_cons_succ, List.setIfInBounds_toArray, List.set_cons_zero, List.set_cons_succ]
          refine wpAnyH_take (i := 2) (v := .pointer (some ⟨g, o, none⟩)) rfl (by kernel_rfl) (by kernel_rfl) (by kernel_rfl) (fun _ _ _ h => h) (Or.inl ⟨by kernel_rfl, fun W hW => by go_simp⟩) (by assumption) ?_
          try simp only [Act.put, List.getElem_toArray, List.getElem_cons_zero, List.getElem_cons_succ, List.setIfInBounds_toArray, List.set_cons_zero, List.set_cons_succ]
          refine wpAnyH_take (i := 3) (v := .int .i64 a) rfl (by kernel_rfl) (by kernel_rfl) (by kernel_rfl) (fun _ _ _ h => h) (Or.inl ⟨by kernel_rfl, fun W hW => by (have c := (hW.cell (p := ⟨g, o, none⟩) hgB0).trans E0.out; go_simp)⟩) (by assumption) ?_
          try simp only [Act.put, List.getElem_toArray, List.getElem_cons_zero, List.getElem_cons_succ, List.setIfInBounds_toArray, List.set_cons_zero, List.set_cons_succ]
          refine wpAnyH_take (i := 6) (v := .slice (some ⟨g, o, none⟩) n c) rfl (by kernel_rfl) (by kernel_rfl) (by kernel_rfl) (fun _ _ _ h => h) (Or.inl ⟨by kernel_rfl, fun W hW => by kernel_rfl⟩) (by assumption) ?_
          try simp only [Act.put, List.getElem_toArray, List.getElem_cons_zero, List.getElem_cons_succ, List.setIfInBounds_toArray, List.set_cons_zero, List.set_cons_succ]
          refine wpAnyH_take (i := 7) (v := .int .i64 (K : Int)) rfl (by kernel_rfl) (by kernel_rfl) (by kernel_rfl) (fun _ _ _ h => h) (Or.inl ⟨by kernel_rfl, fun W hW => by kernel_rfl⟩) (by assumption) ?_
          try simp only [Act.put, List.getElem_toArray, List.getElem_cons_zero, List.getElem_cons_succ, List.setIfInBounds_toArray, List.set_cons_zero, List.set_cons_succ]
          refine wpAnyH_take (i := 8) (v := .int .i64 (K1 : Int)) rfl (by kernel_rfl) (by kernel_rfl) (by kernel_rfl) (fun _ _ _ h => h) (Or.inl ⟨by kernel_rfl, fun W hW => by go_simp⟩) (by assumption) ?_
          try simp only [Act.put, List.getElem_toArray, List.getElem_cons_zero, List.getElem_cons_succ, List.setIfInBounds_toArray, List.set_cons_zero, List.set_cons_succ]
          refine wpAnyH_take (i := 9) (v := .pointer (some ⟨g, o + K1, none⟩)) rfl (by kernel_rfl) (by kernel_rfl) (by kernel_rfl) (fun _ _ _ h => h) (Or.inl ⟨by kernel_rfl, fun W hW => by go_simp⟩) (by assumption) ?_
          try simp only [Act.put, List.getElem_toArray, List.getElem_cons_zero, List.getElem_cons_succ, List.setIfInBounds_toArray, List.set_cons_zero, List.set_cons_succ]
          refine wpAnyH_take (i := 10) (v := .int .i64 b) rfl (by kernel_rfl) (by kernel_rfl) (by kernel_rfl) (fun _ _ _ h => h) (Or.inl ⟨by kernel_rfl, fun W hW => by (have c := (hW.cell (p := ⟨g, o + K1, none⟩) hgB0).trans EK.out; go_simp)⟩) (by assumption) ?_
          try simp only [Act.put, List.getElem_toArray, List.getElem_cons_zero, List.getElem_cons_succ, List.setIfInBounds_toArray, List.set_cons_zero, List.set_cons_succ]
          refine wpAnyH_ready (rs := [4]) (by kernel_rfl) (by simp) ?_
          refine AllReadyH.cons rfl (fun K hK => ?_) AllReadyH.nil
          go_simp
          go_wp2_with (go_at_call 36; refine (ix_digits a _ HL1.out).mono ?_; rw [← HD.out]; rintro e w6 ⟨rfl, h6⟩; have H6 := Lib.hid h6; clear h6)
          refine hK.out _ _ (H6.out.mono HS1.out) (fun _ => ?_)
          clear K hK
          try simp only [Act.put, List.getElem_toArray, List.getElem_cons_zero, List.getElem_cons_succ, List.setIfInBounds_toArray, List.set_cons_zero, List.set_cons_succ]
          refine wpAnyH_take (i := 5) (v := .string ⟨M.toArray⟩) rfl (by kernel_rfl) (by kernel_rfl) (by kernel_rfl) (fun _ _ _ h => h) (Or.inl ⟨by kernel_rfl, fun W hW => by go_simp⟩) (by assumption) ?_
          try simp only [Act.put, List.getElem_toArray, List.getElem_cons_zero, List.getElem_cons_succ, List.setIfInBounds_toArray, List.set_cons_zero, List.set_cons_succ]
          refine wpAnyH_ready (rs := [11]) (by kernel_rfl) (by simp) ?_
          refine AllReadyH.cons rfl (fun K hK => ?_) AllReadyH.nil
          go_simp
          go_wp2_with (go_at_call 36; refine (ix_digits b _ (HL1.out.below H6.out)).mono ?_; rw [← HF.out]; rintro e w7 ⟨rfl, h7⟩; have H7 := Lib.hid (bseq H6.out h7); clear h7)
          refine hK.out _ _ (H7.out.mono HS1.out) (fun _ => ?_)
          clear K hK
          try simp only [Act.put, List.getElem_toArray, List.getElem_cons_zero, List.getElem_cons_succ, List.setIfInBounds_toArray, List.set_cons_zero, List.set_cons_succ]
          refine wpAnyH_take (i := 12) (v := .string ⟨T.toArray⟩) rfl (by kernel_rfl) (by kernel_rfl) (by kernel_rfl) (fun _ _ _ h => h) (Or.inl ⟨by kernel_rfl, fun W hW => by go_simp⟩) (by assumption) ?_
          try simp only [Act.put, List.getElem_toArray, List.getElem_cons_zero, List.getElem_cons_succ, List.setIfInBounds_toArray, List.set_cons_zero, List.set_cons_succ]
          have HOWN := Lib.hid (own_below HO1.out H7.out)
          have HSZ := Lib.hid (Nat.le_trans HS1.out H7.out.size)
          refine wpAnyH_ready (rs := [13]) (by kernel_rfl) (by simp) ?_
          refine AllReadyH.cons rfl (fun K hK => ?_) AllReadyH.nil
          go_simp
          refine hK.out _ _ ((H7.out.mono HS1.out).trans ((below_new _ _).mono HSZ.out)) (fun _ => ?_)
          clear K hK
          try simp only [Act.put, List.getElem_toArray, List.getElem_cons_zero, List.getElem_cons_succ, List.setIfInBounds_toArray, List.set_cons_zero, List.set_cons_succ]
          refine wpAnyH_ready (rs := [14]) (by kernel_rfl) (by simp) ?_
          refine AllReadyH.cons rfl (fun K hK => ?_) AllReadyH.nil
          rw [if_pos (by rfl)]
          refine op_append1 (.tmp 42) (.tmp 55) 25 rfl B0 9 i0 (.string ⟨#[]⟩) 1 16 Tryz.underlying25 Hi.out Hz0.out Hz1.out Hz2.out rfl (by decide) _ _ _ HOWN.out rfl [.string ⟨T.toArray⟩] rfl (by simp) rfl (by simp [Value.oneCell']) Hnm.out Hn47.out HSZ.out ?_
          intro v2 w2 own2 g2 at2
          have HB9 := Lib.hid (below_grown (H7.out.mono HS1.out) g2 HOWN.out HSZ.out (Nat.le_refl _))
          obtain ⟨p2, cap2, hv2, _⟩ := own2.form (Nat.succ_pos _)
          subst hv2
          refine hK.out _ _ HB9.out (fun _ => ?_)
          clear K hK
          try simp only [Act.put, List.getElem_toArray, List.getElem_cons_zero, List.getElem_cons_succ, List.setIfInBounds_toArray, List.set_cons_zero, List.set_cons_succ]
          refine wpAnyH_take (i := 15) (v := .slice (some ⟨p2, 0, none⟩) (done.length + 1) cap2) rfl (by kernel_rfl) (by kernel_rfl) (by kernel_rfl) (fun _ _ _ h => h) (Or.inl ⟨by kernel_rfl, fun W hW => by kernel_rfl⟩) (by assumption) ?_
          try simp only [Act.put, List.getElem_toArray, List.getElem_cons_zero, List.getElem_cons_succ, List.setIfInBounds_toArray, List.set_cons_zero, List.set_cons_succ]
          refine wpAnyH_done (by kernel_rfl) ?_ _
          go_wp2_with fail
          go_roundw
          case rel =>
            obtain ⟨o', ho', hI'⟩ := ints_suf (ints_keep HI1.out HB9.out Hsz5.out) K (by have := HKn.out; have := Hnl.out; omega)
            have hdl : (rs.drop K).length = n - K := by rw [List.length_drop, Hnl.out]
            refine ⟨o', c - K, rs.drop K, done ++ [T], ?_, hI', ⟨_, by rw [List.length_append]; exact own2, RepRow.snoc (R := RStr) (vs := [.string ⟨T.toArray⟩]) rfl Hrep.out⟩, ?_, ?_, fun x hx => Hpg.out x (List.mem_of_mem_drop hx), HB.out.trans HB9.out⟩
            · rw [hdl]; first | rw [ho'] | (rw [← ho']; rfl)
            · have h1 := Ix.parts_run a r (by rw [← Hrs.out, ← HK.out]; exact H3.out)
              rw [← Hrs.out, ← HK.out] at h1
              have h2 := Hd.out
              rw [h1] at h2
              rw [← h2, HT.out, HM.out, HD.out, HF.out, Hbe.out, HK1.out, List.append_assoc]
              congr 1
              simp
            · rw [List.length_append, hdl]
              have := Hn.out; have := HKn.out; have := Hnl.out
              simp; omega
          case measure => have := HKn.out; have := H3.out; have := Hnl.out; simp [sliceN]; omega
        · have h3I : ¬ (3 : Int) ≤ (K : Int) := by omega
          have c0 := He0.out
          have hnc : (n : Int) ≤ (c : Int) := by have := Hcap.out; omega
          have hn1I : (1 : Int) ≤ (n : Int) := by omega
          obtain ⟨D, hD⟩ : ∃ D, D = Ix.dig a := ⟨_, rfl⟩
          have HD := Lib.hid hD
          have H3 := Lib.hid h3
          clear hD h3
          go_wp2_with (first
            | (go_at_call 36; refine (ix_digits a _ HLc.out).mono ?_; rw [← HD.out]; rintro e w6 ⟨rfl, h6⟩; have H6 := Lib.hid h6; have HOWN := Lib.hid (own_below Hown.out h6); have HSZ := Lib.hid (Nat.le_trans Hszc.out h6.size); clear h6)
            | (at_builtin; go_loud (refine wpList_append1 rfl (.tmp 57) (.tmp 62) 25 rfl B0 9 i0 (.string ⟨#[]⟩) 1 16 Tryz.underlying25 Hi.out Hz0.out Hz1.out Hz2.out rfl (by decide) _ _ _ HOWN.out rfl [.string ⟨D.toArray⟩] rfl (by simp) rfl (by simp [Value.oneCell']) Hnm.out Hn47.out HSZ.out ?_); intro v2 w2 own2 g2 at2; have HB9 := Lib.hid (below_grown (H6.out.mono Hszc.out) g2 HOWN.out HSZ.out (Nat.le_refl _)); obtain ⟨p2, cap2, hv2, _⟩ := own2.form (Nat.succ_pos _); subst hv2))
          go_roundw
          case rel =>
            obtain ⟨o', ho', hI'⟩ := ints_suf (ints_keep HIc.out HB9.out Hsz5.out) 1 (by have := Hn1.out; have := Hnl.out; omega)
            have hdl : (rs.drop 1).length = n - 1 := by rw [List.length_drop, Hnl.out]
            refine ⟨o', c - 1, rs.drop 1, done ++ [D], ?_, hI', ⟨_, by rw [List.length_append]; exact own2, RepRow.snoc (R := RStr) (vs := [.string ⟨D.toArray⟩]) rfl Hrep.out⟩, ?_, ?_, fun x hx => Hpg.out x (List.mem_of_mem_drop hx), Hbc.out.trans HB9.out⟩
            · rw [hdl]; first | rw [ho'] | (rw [← ho']; rfl)
            · have h1 := Ix.parts_one a r (by rw [← Hrs.out, ← HK.out]; exact H3.out)
              rw [← Hrs.out] at h1
              have h2 := Hd.out
              rw [h1] at h2
              rw [← h2, HD.out, Hrs.out, List.append_assoc]
              rfl
            · rw [List.length_append, hdl]
              have := Hn.out; have := Hnl.out; have := Hn1.out
              simp; omega
          case measure => have := Hnl.out; have := Hn1.out; simp [sliceN]; omega
end Go.Proofs.YthoblbdkmlggbaaGreatDoor
