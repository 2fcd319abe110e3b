/- 'append(xs, ys...)': xs a row of the call's own, ys any slice. The walk of stetref22.Right. -/
import Derived.Test.YtibinlpbcoihoaaGreatDoorG05
import Derived.Test.YtibinlpbcoihoaaGreatDoorG09
import Derived.Test.YtibinlpbcoihoaaGreatDoorRuR7
import Derived.BigQuiet
set_option linter.unusedSimpArgs false
set_option linter.unusedVariables false
namespace Go.Proofs.YtibinlpbcoihoaaGreatDoor
open Go.RowKit
theorem wpList_append_run {P : Program} {ops : Array Oper} {rest : List Oper} {o : Oper} {a : Act} {w w' : World} {Q : Exit → Act → World → Prop} {v0 xv v' : Value} (hgd : o.guard = none) (s x : Operand) (t : TypeId)
    (ho : o.op = .call { callee := .builtin .append, args := #[s, x], argTypes := #[t, t] }) (hs : a.eval s = v0) (hx : a.eval x = xv) (hr : (Builtin.append_ #[t, t] o.type #[v0, xv]).run P w = .ok v' w')
    (h : wpList P ops Q rest (a.put o.dst v') w') : wpList P ops Q (o :: rest) a w := by
  refine wpList_plain hgd fun K hK => ?_
  unfold Oper.wp execOp
  simp only [ho, resolve, invoke, builtin, Sem.run_bind, Sem.run_pure, Result.andThen_ok, List.map_toArray, List.map_cons, List.map_nil, hs, hx, hr]
  exact hK _ _ h
theorem add_lit2 (b off j : Nat) : (⟨b, off, none⟩ : Addr).add j = ⟨b, off + j, none⟩ := by unfold Addr.add; split <;> simp_all
theorem flat_at {α : Type} (c : α → List Value) (n : Nat) (hn : ∀ x, (c x).length = n) : ∀ (l : List α) (j : Nat) (u : Value), (l.flatMap c)[j]? = some u → ∃ i r x, l[i]? = some x ∧ (c x)[r]? = some u ∧ j = i * n + r
  | [], j, u, h => by simp at h
  | y :: ys, j, u, h => by
    rw [List.flatMap_cons] at h
    by_cases hj : j < n
    · rw [List.getElem?_append_left (by rw [hn]; exact hj)] at h
      exact ⟨0, j, y, rfl, h, by simp⟩
    · rw [List.getElem?_append_right (by rw [hn]; omega), hn] at h
      obtain ⟨i, r, x, h1, h2, h3⟩ := flat_at c n hn ys (j - n) u h
      exact ⟨i + 1, r, x, by simpa using h1, h2, by rw [Nat.succ_mul]; omega⟩
theorem run_append_none {P : Program} (w : World) (t ty e : TypeId) (i : TypeInfo) (ht : P.underlying t = some (.slice e)) (hi : P.info? e = some i) (p : Option Addr) (n cap c : Nat) (hle : n ≤ cap) :
    (Builtin.append_ #[t, t] ty #[.slice p n cap, .slice none 0 c]).run P w = .ok (.slice p n cap) w := by
  have hf := run_firstCells_none (P := P) (w := w) i.size 0 0 c
  cases p with
  | none => simp [Builtin.append_, run_underlying ht, sizeOf, typeInfo, hi, Builtin.lenOf, hle, hf]
  | some a => simp [Builtin.append_, run_underlying ht, sizeOf, typeInfo, hi, Builtin.lenOf, hle, hf, storeCells]
theorem run_append_slice {α : Type} {P : Program} (c : α → List Value) (R : α → List Value → Prop) (w : World) (B : Nat) (t ty e : TypeId) (i : TypeInfo) (z : Value) (size bytes : Nat) (ht : P.underlying t = some (.slice e)) (hi : P.info? e = some i) (hz : i.zero = some z)
    (hsize : i.size = size) (hby : i.bytes = bytes) (hzs : z.cells.size = size) (hsz : 0 < size) (v : Value) (n : Nat) (fl : List Value) (hown : w.ownsRow B e size v n fl) (x : Value) (xs : List α) (S : Nat → Prop) (hS : SliceIn S size R w x xs)
    (hR : ∀ y vs, R y vs → vs = c y) (hc : ∀ y, (c y).length = size) (h1 : ∀ y, ∀ u ∈ c y, u.oneCell' = true) (h63 : n + xs.length ≤ maxLen) (hbytes : (n + xs.length) * bytes ≤ 140737488355328) (hbase : B ≤ w.heap.size) :
    ∃ v' w', (Builtin.append_ #[t, t] ty #[v, x]).run P w = .ok v' w' ∧ w'.ownsRow B e size v' (n + xs.length) (fl ++ xs.flatMap c) ∧ w.grownBy w' v.ownBlock ∧ (v'.ownBlock = v.ownBlock ∨ v'.ownBlock = some w.heap.size) := by
  obtain ⟨p, cap, rfl, hle, hm, hat⟩ := hS
  cases p with
  | none =>
    have h0 : xs = [] := by
      cases xs with
      | nil => rfl
      | cons y r => obtain ⟨b, off, vs, hp, _⟩ := hat 0 y rfl; cases hp
    subst h0
    obtain ⟨q, k, hv, hk⟩ : ∃ q k, v = .slice q n k ∧ n ≤ k := by
      rcases hown.2 with ⟨hv, hn0⟩ | ⟨g, k, cur, hv, _, _, hk, _⟩
      · exact ⟨none, 0, by rw [hv, hn0], by omega⟩
      · exact ⟨_, k, hv, hk⟩
    subst hv
    exact ⟨_, w, run_append_none w t ty e i ht hi q n k cap hk, by simpa using hown, grown_of_below (Below.refl _ _) _, .inl rfl⟩
  | some a =>
    obtain ⟨v', w', hr, h2, h3, _, h4⟩ := run_append_own_at (P := P) w B t ty e i z size bytes ht hi hz hsize hby hzs hsz v n fl hown a xs.length cap (xs.flatMap c)
      (len_flat c size hc xs) (fun j u hj => by
        obtain ⟨i2, r, y, h1, h2, h3⟩ := flat_at c size hc xs j u hj
        obtain ⟨b, off, vs, hp, _, _, hy, hcl⟩ := hat i2 y h1
        obtain rfl := hR y vs hy
        obtain rfl := Option.some.inj hp
        rw [add_lit2, h3]
        exact hcl r u h2) (fun u hu => by
        obtain ⟨y, _, hy⟩ := List.mem_flatMap.1 hu
        exact h1 y u hy) h63 hbytes hbase
    exact ⟨v', w', hr, h2, h3, h4⟩
end Go.Proofs.YtibinlpbcoihoaaGreatDoor
set_option linter.unusedSimpArgs false
set_option linter.unusedVariables false
namespace Go.Proofs.YtibinlpbcoihoaaGreatDoor
open Go.RowKit
namespace Ru
theorem right_may {l : List Rl} {x : Rl} (hx : x ∈ l) (h : may x = false) : right l = false := by
  cases hr : right l with
  | false => rfl
  | true =>
    unfold right at hr
    simp only [Bool.and_eq_true, List.all_eq_true] at hr
    rw [hr.1 x hx] at h; cases h
theorem right_dup {l : List Rl} (h : ¬ (allW l).Nodup) : right l = false := by
  cases hr : right l with
  | false => rfl
  | true =>
    unfold right at hr
    simp only [Bool.and_eq_true, decide_eq_true_eq] at hr
    exact absurd hr.2.1 h
theorem right_end {l : List Rl} (h : ∀ x ∈ l, may x = true) (hn : (allW l).Nodup) : right l = decide (l.length ≤ 12) := by
  unfold right
  rw [List.all_eq_true.2 h, decide_eq_true hn]; rfl
theorem allW_snoc (l : List Rl) (k : Nat) (x : Rl) (h : l[k]? = some x) : allW (l.take (k + 1)) = allW (l.take k) ++ writes x := by
  unfold allW; rw [List.take_add_one, h]; simp
theorem writes_len (x : Rl) : (writes x).length ≤ 4 := by
  unfold writes
  by_cases h : x.kind = 4
  · rw [if_pos h]; simp
  · rw [if_neg h, List.length_map]
    unfold ends
    repeat (first | decide | split)
theorem allW_len : ∀ l : List Rl, (allW l).length ≤ 4 * l.length
  | [] => by simp [allW]
  | x :: l => by
    have := allW_len l
    have := writes_len x
    unfold allW at *
    rw [List.flatMap_cons, List.length_append, List.length_cons]; omega
theorem nodup_snoc {α : Type} {l : List α} {x : α} (h : l.Nodup) (hx : x ∉ l) : (l ++ [x]).Nodup := by
  rw [List.nodup_append]
  refine ⟨h, by simp, fun a ha b hb e => ?_⟩
  rw [List.mem_singleton] at hb
  subst hb; subst e; exact hx ha
theorem take_dup {α : Type} {l : List α} {i j : Nat} {x : α} (hij : j < i) (hi : l[i]? = some x) (hj : l[j]? = some x) : ¬ l.Nodup := by
  intro h
  obtain ⟨i1, i2⟩ := List.getElem?_eq_some_iff.1 hi
  obtain ⟨j1, j2⟩ := List.getElem?_eq_some_iff.1 hj
  have := List.pairwise_iff_getElem.1 h j i j1 i1 hij
  exact this (j2.trans i2.symm)
theorem not_mem_take {α : Type} {l : List α} {i : Nat} {x : α} (h : ∀ j y, j < i → l[j]? = some y → y ≠ x) : x ∉ l.take i := by
  intro hx
  obtain ⟨j, hj, e⟩ := List.getElem_of_mem hx
  have hj' : j < i ∧ j < l.length := by rw [List.length_take] at hj; omega
  refine h j x hj'.1 ?_ rfl
  rw [List.getElem?_eq_getElem hj'.2]
  rw [List.getElem_take] at e
  rw [e]
end Ru
theorem append_strs {B : Nat} {w : World} {v x : Value} {a b : List (List UInt8)} {S : Nat → Prop} (hO : OwnL B 9 1 RStr w v a) (hX : SliceIn S 1 RStr w x b) (hB : B ≤ w.heap.size) (hl : a.length + b.length ≤ 1000000) :
    ∃ v' w', (Builtin.append_ #[41, 41] 41 #[v, x]).run Tryz.prog w = .ok v' w' ∧ OwnL B 9 1 RStr w' v' (a ++ b) ∧ (∀ C w0, Below C w0 w → C ≤ B → Below C w0 w') := by
  obtain ⟨i0, hi, hz0, hz1, hz2⟩ := info_parts str_info
  obtain ⟨fl, hown, hrep⟩ := hO
  obtain ⟨v3, w3, hrun, own3, g3, at3⟩ := run_append_slice (P := Tryz.prog) cS RStr w B 41 41 9 i0 _ 1 16 Tryz.underlying41 hi hz0 hz1 hz2 (by decide) (by decide) v a.length fl hown x b S hX (fun _ _ h => h) (fun _ => rfl) (fun y u hu => by simp only [cS, List.mem_cons, List.not_mem_nil, or_false] at hu; rw [hu]; rfl) (by unfold maxLen; omega) (by omega) hB
  refine ⟨v3, w3, hrun, ⟨_, by rw [List.length_append]; exact own3, ?_⟩, fun C w0 hb hC => hb.grown g3 (Nat.le_trans hC hB) (fun q e => Nat.le_trans hC (World.ownsRow.lt hown q e).1)⟩
  rw [rep_strs _ _ hrep]
  have h := rep_flat (R := RStr) cS (fun _ => rfl) (a ++ b)
  rw [List.flatMap_append] at h
  rw [show (a.map fun s : List UInt8 => (Value.string ⟨s.toArray⟩)) = a.flatMap cS by unfold cS; rw [List.map_eq_flatMap]]
  exact h
set_option maxRecDepth 100000 in
set_option maxHeartbeats 3200000 in
theorem ref22_right (l : List Ru.Rl) (v : Value) (S : Nat → Prop) (w : World) (hS : SliceIn S 3 RRl w v l) (hl : l.length ≤ 10000) (hx : ∀ x ∈ l, x.a.length ≤ 100000 ∧ x.b.length ≤ 100000) :
    Calls Tryz.prog 12 #[v] w fun e w' => e = .returned (.bool (Ru.right l)) ∧ Below w.heap.size w w' := by
  obtain ⟨pa, cap, rfl⟩ : ∃ p c, v = .slice p l.length c := by obtain ⟨p, c, h, _⟩ := hS; exact ⟨p, c, h⟩
  have HS := Lib.hid hS; have Hl := Lib.hid hl; have HX := Lib.hid hx
  clear hS hl hx
  have hO := Lib.hid (OwnL.made w.heap.size 9 1 RStr w (Nat.le_refl _))
  have hB := Lib.hid (below_new w (.cells #[] 9))
  go_enter Tryz.func12, Tryz.ntmps12
  go_wp2_with fail
  go_loopw [3, 4] (fun ov iv wr => ∃ (k : Nat) (p : Option Addr) (n c : Nat), k ≤ l.length ∧ iv = .int .i64 (k : Int) ∧ ov = .slice p n c ∧ OwnL w.heap.size 9 1 RStr wr ov (Ru.allW (l.take k)) ∧ (∀ x ∈ l.take k, Ru.may x = true) ∧ Below w.heap.size w wr) (fun _ iv _ => l.length - (intOf iv).toNat)
  case atStart => exact ⟨0, _, _, _, Nat.zero_le _, rfl, rfl, hO.out, fun x hx => by simp at hx, hB.out⟩
  case round =>
    clear hO hB
    obtain ⟨k, p, n, c, hk, rfl, rfl, hO, hm, hb⟩ := hrel
    by_cases hlt : k < l.length
    · obtain ⟨x, hx⟩ : ∃ x, l[k]? = some x := ⟨_, List.getElem?_eq_getElem hlt⟩
      obtain ⟨b, off, rfl⟩ := rl_some HS.out hx
      have hxm := List.mem_of_getElem? hx
      obtain ⟨hxa, hxb⟩ := HX.out x hxm
      have hlt' : (k : Int) < (l.length : Int) := by omega
      have Hwk := Lib.hid (f2_w1 k (by have := Hl.out; omega))
      have Hsn := Lib.hid (Ru.allW_snoc l k x hx)
      have Hts := Lib.hid (takeS l k x hx)
      have Hlen := Lib.hid (show (Ru.allW (l.take k)).length + (Ru.writes x).length ≤ 1000000 by
        have h1 := Ru.allW_len (l.take k); have h2 := Ru.writes_len x; rw [List.length_take] at h1; have := Hl.out; omega)
      have Hx := Lib.hid hx; have HO := Lib.hid hO; have Hm := Lib.hid hm; have Hb := Lib.hid hb; have Hlt := Lib.hid hlt; have Hxm := Lib.hid hxm; have Hxa := Lib.hid hxa; have Hxb := Lib.hid hxb
      obtain ⟨c0, c1, c2⟩ := rl_cells (HS.out.below hb (fun _ _ _ h => h)) hx
      clear hx hO hm hb hlt hxm hxa hxb hk
      cases hmay : Ru.may x with
      | false =>
        have Hr := Lib.hid (Ru.right_may Hxm.out hmay)
        have Hmay := Lib.hid hmay
        clear hmay
        go_wp2_with (go_at_call 29; have ho := ref22_may x wr Hxa.out Hxb.out; unfold rlV at ho; refine ho.mono ?_; clear ho; rw [Hmay.out]; rintro e w2 ⟨rfl, hb2⟩; have Hb2 := Lib.hid hb2; clear hb2)
        go_ret
        exact ⟨ret_bool Hr.out.symm, Hb.out.trans (Hb2.out.mono Hb.out.size)⟩
      | true =>
        have Hmay := Lib.hid hmay
        clear hmay
        go_wp2_with first
          | (go_at_call 29; have ho := ref22_may x wr Hxa.out Hxb.out; unfold rlV at ho; refine ho.mono ?_; clear ho; rw [Hmay.out]; rintro e w2 ⟨rfl, hb2⟩; clear c0 c1 c2; have Hb2 := Lib.hid (Hb.out.trans (hb2.mono Hb.out.size)); have HO2 := Lib.hid (HO.out.below hb2); obtain ⟨c0, c1, c2⟩ := rl_cells (HS.out.below Hb2.out (fun _ _ _ h => h)) Hx.out; clear hb2)
          | (go_at_call 18; have ho := ref22_writes x w2 Hxa.out Hxb.out; unfold rlV at ho; refine ho.mono ?_; clear ho; rintro e w3 ⟨p3, cc3, rfl, hW3, hb3⟩; have HW3 := Lib.hid (hW3.slice RStr.size (fun _ => True) (fun _ _ => trivial)); have Hb3 := Lib.hid (Hb2.out.trans (hb3.mono Hb2.out.size)); have HO3 := Lib.hid (HO2.out.below hb3); clear hW3 hb3 c0 c1 c2; obtain ⟨v4, w4, hrun, hO4, hb4⟩ := append_strs HO3.out HW3.out Hb3.out.size Hlen.out; have HO4 := Lib.hid hO4; have Hb4 := Lib.hid (hb4 _ _ Hb3.out (Nat.le_refl _)); have Hrun := Lib.hid hrun; clear hO4 hb4 hrun)
          | (at_builtin; go_loud (refine wpList_append_run rfl (.tmp 20) (.tmp 25) 41 rfl rfl rfl Hrun.out ?_))
        obtain ⟨p4, c4, rfl⟩ := HO4.out.form
        go_wp2_with fail
        go_roundw
        case rel =>
          refine ⟨k + 1, p4, _, c4, by have := Hlt.out; omega, by first | rfl | rw [Hwk.out], rfl, by rw [Hsn.out]; exact HO4.out, ?_, Hb4.out⟩
          rw [Hts.out]
          intro y hy
          rcases List.mem_append.1 hy with h | h
          · exact Hm.out y h
          · rw [List.mem_singleton.1 h]; exact Hmay.out
        case measure => have := Hlt.out; (try rw [Hwk.out]); simp [intOf]; omega
    · have he : k = l.length := by omega
      subst he
      rw [List.take_length] at hO hm
      obtain ⟨A, hA⟩ : ∃ A, A = Ru.allW l := ⟨_, rfl⟩
      rw [← hA] at hO
      obtain ⟨p', c', hpc⟩ := hO.form
      simp only [Value.slice.injEq] at hpc
      obtain ⟨rfl, rfl, rfl⟩ := hpc
      have HA := Lib.hid hA
      have HO := Lib.hid (hO.slice RStr.size (fun _ => True) (fun _ _ => trivial)); have Hm := Lib.hid hm; have Hb := Lib.hid hb
      have HAl := Lib.hid (show A.length ≤ 40000 by rw [hA]; have := Ru.allW_len l; have := Hl.out; omega)
      clear hO hm hb hlt hk hA
      generalize wr = w1 at *
      go_wp2_with fail
      go_loopw [5] (fun iv wr => ∃ i : Nat, i ≤ A.length ∧ iv = .int .i64 (i : Int) ∧ (A.take i).Nodup ∧ Below w1.heap.size w1 wr) (fun iv _ => A.length - (intOf iv).toNat)
      case atStart => exact ⟨0, Nat.zero_le _, rfl, by simp, Below.refl _ _⟩
      case round =>
        obtain ⟨i, hi, rfl, hnd, hb1⟩ := hrel
        by_cases hlt : i < A.length
        · obtain ⟨x, hx⟩ : ∃ x, A[i]? = some x := ⟨_, List.getElem?_eq_getElem hlt⟩
          have hlt' : (i : Int) < (A.length : Int) := by omega
          have Hwi := Lib.hid (f2_w1 i (by have := HAl.out; omega))
          have Hx := Lib.hid hx; have Hnd := Lib.hid hnd; have Hb1 := Lib.hid hb1; have Hlt := Lib.hid hlt
          clear hx hnd hb1 hlt hi
          generalize wr = w2 at *
          go_wp2_with fail
          go_loopw [6] (fun jv wr => ∃ j : Nat, j ≤ i ∧ jv = .int .i64 (j : Int) ∧ (∀ z y, z < j → A[z]? = some y → y ≠ x) ∧ Below w1.heap.size w1 wr) (fun jv _ => i - (intOf jv).toNat)
          case atStart => exact ⟨0, Nat.zero_le _, rfl, fun z y h => absurd h (Nat.not_lt_zero _), Hb1.out⟩
          case round =>
            obtain ⟨j, hj, rfl, hno, hb2⟩ := hrel
            by_cases hlt2 : j < i
            · obtain ⟨y, hy⟩ : ∃ y, A[j]? = some y := ⟨_, List.getElem?_eq_getElem (by have := Hlt.out; omega)⟩
              have hlt2' : (j : Int) < (i : Int) := by omega
              have hlt3' : (j : Int) < (A.length : Int) := by have := Hlt.out; omega
              have Hwj := Lib.hid (f2_w1 j (by have := HAl.out; have := Hlt.out; omega))
              obtain ⟨ba, oa, rfl⟩ : ∃ b o, p = some ⟨b, o, none⟩ := by
                obtain ⟨p', c', he, _, _, hat⟩ := HO.out
                obtain ⟨b', o', vs, hp, _⟩ := hat j y hy
                simp only [Value.slice.injEq] at he
                obtain ⟨rfl, _, _⟩ := he
                exact ⟨b', o', hp⟩
              have c0 := (HO.out.below hb2 (fun _ _ _ h => h)).cellS Hx.out
              have c1 := (HO.out.below hb2 (fun _ _ _ h => h)).cellS hy
              have Hy := Lib.hid hy; have Hno := Lib.hid hno; have Hb2 := Lib.hid hb2; have Hlt2 := Lib.hid hlt2
              clear hy hno hb2 hlt2 hj
              cases hxy : (x == y) with
              | true =>
                have Hr := Lib.hid (show Ru.right l = false from Ru.right_dup (by rw [← HA.out]; exact Ru.take_dup Hlt2.out Hx.out (by rw [eq_of_beq hxy]; exact Hy.out)))
                go_wp2_with fail
                go_quiet (fail)
                go_wp2_with fail
                go_ret
                exact ⟨ret_bool Hr.out.symm, below_drewN (Hb.out.trans (Hb2.out.mono Hb.out.size)) _⟩
              | false =>
                have Hno2 := Lib.hid (show ∀ z u, z < j + 1 → A[z]? = some u → u ≠ x from fun z u hz hu => by
                  rcases Nat.lt_or_ge z j with h | h
                  · exact Hno.out z u h hu
                  · have : z = j := by omega
                    rw [this, Hy.out] at hu
                    cases hu
                    intro e; rw [e] at hxy; simp at hxy)
                go_wp2_with fail
                go_quiet (fail)
                go_wp2_with fail
                go_roundw
                case rel => exact ⟨j + 1, by have := Hlt2.out; omega, by first | rfl | rw [Hwj.out], Hno2.out, below_drewN Hb2.out _⟩
                case measure => have := Hlt2.out; (try rw [Hwj.out]); simp [intOf]; omega
            · have he : j = i := by omega
              subst he
              have Hnd2 := Lib.hid (show (A.take (j + 1)).Nodup by rw [takeS A j x Hx.out]; exact Ru.nodup_snoc Hnd.out (Ru.not_mem_take hno))
              have Hb2 := Lib.hid hb2
              clear hlt2 hj hno hb2
              go_wp2_with fail
              go_roundw
              case rel => exact ⟨j + 1, by have := Hlt.out; omega, by first | rfl | rw [Hwi.out], Hnd2.out, Hb2.out⟩
              case measure => have := Hlt.out; (try rw [Hwi.out]); simp [intOf]; omega
        · have he : i = A.length := by omega
          subst he
          have Hr := Lib.hid (Ru.right_end Hm.out (by rw [← HA.out]; rw [List.take_length] at hnd; exact hnd))
          have Hb1 := Lib.hid hb1
          clear hlt hi hnd hb1
          by_cases h12 : l.length ≤ 12
          · have g12 : decide ((l.length : Int) ≤ 12) = true := decide_eq_true (by omega)
            have Hr2 := Lib.hid (show Ru.right l = true by rw [Hr.out]; exact decide_eq_true h12)
            clear h12
            go_wp2_with fail
            go_ret
            exact ⟨ret_bool Hr2.out.symm, Hb.out.trans (Hb1.out.mono Hb.out.size)⟩
          · have g12 : decide ((l.length : Int) ≤ 12) = false := decide_eq_false (by omega)
            have Hr2 := Lib.hid (show Ru.right l = false by rw [Hr.out]; exact decide_eq_false h12)
            clear h12
            go_wp2_with fail
            go_ret
            exact ⟨ret_bool Hr2.out.symm, Hb.out.trans (Hb1.out.mono Hb.out.size)⟩
end Go.Proofs.YtibinlpbcoihoaaGreatDoor
