/- The walks of package side (layer 10), seventh part: labels by their keys. -/
import Derived.Test.YtimmmjmmjokdbaaGreatDoorSidW6
import Derived.Laws.ResultCell
set_option linter.unusedSimpArgs false
set_option linter.unusedVariables false
namespace Go.Proofs.YtimmmjmmjokdbaaGreatDoor
open Go.RowKit
theorem wp_append1 {P : Program} {o : Oper} {a : Act} {w1 : World} {K : Act → World → Prop} {Q : Exit → Act → World → Prop} (s x : Operand) (t : TypeId)
    (ho : o.op = .call { callee := .builtin .append, args := #[s, x], argTypes := #[t, t] })
    (base : Nat) (e : TypeId) (i : TypeInfo) (z : Value) (size bytes : Nat) (ht : P.underlying t = some (.slice e)) (hi : P.info? e = some i) (hz : i.zero = some z)
    (hsize : i.size = size) (hby : i.bytes = bytes) (hzs : z.cells.size = size) (hsz : 0 < size)
    (v : Value) (n : Nat) (xs : List Value) (hown : w1.ownsRow base e size v n xs) (hs : a.eval s = v)
    (news : List Value) {g : Nat} (hx : a.eval x = .slice (some ⟨g, 0, none⟩) 1 1) (hg : g = w1.heap.size) (hl : news.length = size) (h1 : ∀ u ∈ news, u.oneCell' = true)
    (h63 : n + 1 ≤ maxLen) (hbytes : (n + 1) * bytes ≤ 140737488355328) (hbase : base ≤ w1.heap.size)
    (h : ∀ v' w', w'.ownsRow base e size v' (n + 1) (xs ++ news) → w1.grownBy w' v.ownBlock → (v'.ownBlock = v.ownBlock ∨ v'.ownBlock = some (w1.heap.size + 1)) → K (a.put o.dst v') w') :
    o.wp P a (w1.alloc (.cells news.toArray e)) K Q := by
  subst hg
  obtain ⟨v', w', hr, h2, h3, _, h4⟩ := run_append_own_at (P := P) (w1.alloc (.cells news.toArray e)) base t o.type e i z size bytes ht hi hz hsize hby hzs hsz v n xs (hown.alloc _) ⟨w1.heap.size, 0, none⟩ 1 1 news
    (by rw [hl]; simp) (fun j u hu => by
      have hadd : (⟨w1.heap.size, 0, none⟩ : Addr).add j = ⟨w1.heap.size, j, none⟩ := by unfold Addr.add; split <;> simp_all
      rw [hadd, cell_of_row _ _ j _ _ _ (heap_alloc_new w1 _)]
      simpa using hu) h1 h63 hbytes (by simp; omega)
  unfold Oper.wp execOp
  simp only [ho, resolve, invoke, builtin, Sem.run_bind, Sem.run_pure, Result.andThen_ok, List.map_toArray, List.map_cons, List.map_nil, hs, hx, hr]
  exact h v' w' h2 (grown_trans (World.grownBy_alloc w1 _ _) h3) (by simpa using h4)

theorem grown_frozen {w w' : World} {row : Option Nat} {r : Nat} (hg : w.grownBy w' row) (hr : r < w.heap.size) (hne : row ≠ some r) (i : Nat) : w'.frozen? ⟨r, i, none⟩ = w.frozen? ⟨r, i, none⟩ :=
  World.frozen?_of_block (hg.block r hr (fun e => hne e.symm))

theorem grown_set (w : World) (r i : Nat) (v : Value) : w.grownBy (w.setCell ⟨r, i, none⟩ v) (some r) :=
  ⟨rfl, rfl, rfl, by simp [World.setCell], fun k _ hk => Below.heap_setCell _ _ _ _ (fun e => hk (by rw [e]))⟩
theorem ret_cell {P : Program} {fn : Func} {R : Ending → World → Prop} {a : Act} {w : World} {v : Value} {p u : Tmp} {ty : TypeId} {ad : Addr} (h : fn.results = #[.cell p ty, .tmp u]) (hp : a.tmps.getD p undef = .pointer (some ad))
    (hl : (loadVar ty ad).run P w = .ok v w) (hd : a.defers = []) (hR : R (.returned (.tuple #[v, a.tmps.getD u undef])) w) : bodyPost P fn R .ret a w := by
  refine bodyPost_ret (v := .tuple #[v, a.tmps.getD u undef]) ?_ hd hR
  rw [results_cell_tmp h, hp]
  simp [asAddr, hl, Result.andThen]
theorem load_lab (g : Nat) (a b c : Value) (w : World) (h0 : w.cell? ⟨g, 0, none⟩ = some a) (h1 : w.cell? ⟨g, 1, none⟩ = some b) (h2 : w.cell? ⟨g, 2, none⟩ = some c) :
    (loadVar 42 ⟨g, 0, none⟩).run Tryz.prog w = .ok (.agg #[a, b, c]) w := by
  go_simp
theorem set3 (g : Nat) (w : World) {o0 o1 o2 : Value} (a b c : Value) (d0 : w.cell? ⟨g, 0, none⟩ = some o0) (d1 : w.cell? ⟨g, 1, none⟩ = some o1) (d2 : w.cell? ⟨g, 2, none⟩ = some o2) :
    (((w.setCell ⟨g, 0, none⟩ a).setCell ⟨g, 1, none⟩ b).setCell ⟨g, 2, none⟩ c).cell? ⟨g, 0, none⟩ = some a ∧ (((w.setCell ⟨g, 0, none⟩ a).setCell ⟨g, 1, none⟩ b).setCell ⟨g, 2, none⟩ c).cell? ⟨g, 1, none⟩ = some b ∧
    (((w.setCell ⟨g, 0, none⟩ a).setCell ⟨g, 1, none⟩ b).setCell ⟨g, 2, none⟩ c).cell? ⟨g, 2, none⟩ = some c := by
  refine ⟨?_, ?_, ?_⟩
  · rw [World.cell?_setCell_other _ _ _ _ (by simp), World.cell?_setCell_other _ _ _ _ (by simp)]
    exact World.cell?_setCell_same _ _ _ d0
  · rw [World.cell?_setCell_other _ _ _ _ (by simp)]
    exact World.cell?_setCell_same _ _ _ (by rw [World.cell?_setCell_other _ _ _ _ (by simp)]; exact d1)
  · exact World.cell?_setCell_same _ _ _ (by rw [World.cell?_setCell_other _ _ _ _ (by simp), World.cell?_setCell_other _ _ _ _ (by simp)]; exact d2)
theorem set3_below {B g : Nat} {a0 w : World} (h : Below B a0 w) (hg : B ≤ g) (a b c : Value) : Below B a0 (((w.setCell ⟨g, 0, none⟩ a).setCell ⟨g, 1, none⟩ b).setCell ⟨g, 2, none⟩ c) :=
  ((h.setCell (p := ⟨g, 0, none⟩) hg a).setCell (p := ⟨g, 1, none⟩) hg b).setCell (p := ⟨g, 2, none⟩) hg c
theorem frozen_below {w w' : World} {B g i : Nat} (hb : Below B w w') (hg : g < B) : w'.frozen? ⟨g, i, none⟩ = w.frozen? ⟨g, i, none⟩ := World.frozen?_of_block (hb.block g hg)
theorem find_miss (l : List Sd.Lab) (k : Nat) (x : Sd.Lab) (key : List UInt8) (hx : l[k]? = some x) (h : Sd.find (l.take k) key = none) (hk : (x.key == key) = false) : Sd.find (l.take (k + 1)) key = none := by
  rw [List.take_add_one, hx]
  unfold Sd.find at h ⊢
  rw [List.find?_append, h]
  simp [hk]
theorem find_hit (l : List Sd.Lab) (k : Nat) (x : Sd.Lab) (key : List UInt8) (hx : l[k]? = some x) (h : Sd.find (l.take k) key = none) (hk : (x.key == key) = true) : Sd.find l key = some x := by
  unfold Sd.find at h ⊢
  obtain ⟨h1, h2⟩ := List.getElem?_eq_some_iff.1 hx
  rw [← List.take_append_drop k l, List.find?_append, h, List.drop_eq_getElem_cons h1, h2]
  simp [hk]
/-- what 'Find' tells -/
def labV (o : Option Sd.Lab) : Value := match o with
  | some l => .tuple #[.agg #[.string ⟨l.key.toArray⟩, .string ⟨l.num.toArray⟩, .int .i64 l.page], .bool true]
  | none => .tuple #[.agg #[.string ⟨#[]⟩, .string ⟨#[]⟩, .int .i64 0], .bool false]
set_option maxRecDepth 100000 in
set_option maxHeartbeats 3200000 in
theorem side_find (x : Sd.Side) (v : Value) (key : List UInt8) (S : Nat → Prop) (w : World) (hX : SideIn S w v x) (hsm : x.labs.length ≤ 1000000) :
    Calls Tryz.prog 15 #[v, .string ⟨key.toArray⟩] w fun e w' => e = .returned (labV (Sd.find x.labs key)) ∧ Below w.heap.size w w' := by
  obtain ⟨vl, vh, vc, vb, rfl, hLb, hHd, hCt, hBb⟩ := hX
  obtain ⟨pl, cl, rfl, hll, hlm, hlat⟩ := hLb
  have Hlat := Lib.hid hlat
  clear hHd hCt hBb hll hlm hlat
  go_enter Tryz.func15, Tryz.ntmps15
  go_upto_region 1 with fail
  obtain ⟨W1, hW1⟩ : ∃ W1, W1 = w.alloc (.cells #[.slice pl x.labs.length cl, vh, vc, vb] 26) := ⟨_, rfl⟩
  have hs1 : W1.heap.size = w.heap.size + 1 := by rw [hW1]; simp
  obtain ⟨W2, hW2⟩ : ∃ W2, W2 = W1.alloc (.cells #[.string ⟨#[]⟩, .string ⟨#[]⟩, .int .i64 0] 42) := ⟨_, rfl⟩
  have hb1 : Below w.heap.size w W1 := by rw [hW1]; exact below_new w _
  have hb2 : Below w.heap.size w W2 := by rw [hW2]; exact hb1.alloc hb1.size _
  have hs2 : W2.heap.size = w.heap.size + 2 := by rw [hW2]; simp [hs1]
  have hx1 : ∀ (i : Nat) (u : Value), #[Value.string ⟨#[]⟩, .string ⟨#[]⟩, .int .i64 0][i]? = some u → W2.cell? ⟨w.heap.size + 1, i, none⟩ = some u := by
    intro i u hu
    rw [← hs1, hW2, cell_of_row _ _ _ _ _ _ (heap_alloc_new W1 _)]
    exact hu
  have hf1 : ∀ i : Nat, W2.frozen? ⟨w.heap.size + 1, i, none⟩ = false := by
    intro i
    rw [← hs1, hW2]
    simp
  have ht2 : W2.cell? ⟨w.heap.size, 0, none⟩ = some (.slice pl x.labs.length cl) := by
    rw [hW2, World.cell?_alloc_lt _ _ ⟨w.heap.size, 0, none⟩ (by rw [hs1]; show w.heap.size < _; omega), hW1, cell_of_row _ _ _ _ _ _ (heap_alloc_new w _)]; rfl
  first
    | rw [← hW1, ← hW2]
    | (rw [← hW1, hs1] at *; rw [← hW2])
  have Hx1 := Lib.hid hx1; have Hf1 := Lib.hid hf1; have Hb2 := Lib.hid hb2; have Hs2 := Lib.hid hs2
  clear hx1 hf1 hb1 hb2 hW1 hW2 hs1 hs2
  go_wp2_with fail
  go_loopw [11] (fun iv wr => ∃ k : Nat, k ≤ x.labs.length ∧ iv = .int .i64 (k : Int) ∧ Sd.find (x.labs.take k) key = none ∧ Below W2.heap.size W2 wr) (fun iv _ => x.labs.length - (intOf iv).toNat)
  case atStart => exact ⟨0, Nat.zero_le _, rfl, rfl, Below.refl _ _⟩
  case round =>
    obtain ⟨k, hk, rfl, hno, hb⟩ := hrel
    have Hno := Lib.hid hno; have Hbk := Lib.hid hb
    have HB := Lib.hid (Hb2.out.trans (hb.mono Hb2.out.size))
    have hzw : w.heap.size + 1 < wr.heap.size := by have h1 := hb.size; have h2 := Hs2.out; omega
    have hc : ∀ (i : Nat) (u : Value), #[Value.string ⟨#[]⟩, .string ⟨#[]⟩, .int .i64 0][i]? = some u → wr.cell? ⟨w.heap.size + 1, i, none⟩ = some u := fun i u hu => (hb.cell (p := ⟨w.heap.size + 1, i, none⟩) (by rw [Hs2.out]; show w.heap.size + 1 < _; omega)).trans (Hx1.out i u hu)
    have hf : ∀ i : Nat, wr.frozen? ⟨w.heap.size + 1, i, none⟩ = false := fun i => (frozen_below hb (by rw [Hs2.out]; omega)).trans (Hf1.out i)
    have Hc := Lib.hid hc; have Hf := Lib.hid hf; have Hzw := Lib.hid hzw
    clear hno hb hc hf hzw
    by_cases hlt : k < x.labs.length
    · obtain ⟨y, hy⟩ : ∃ y, x.labs[k]? = some y := ⟨_, List.getElem?_eq_getElem hlt⟩
      obtain ⟨b, off, vs, rfl, _, hbw, hR, hcc⟩ := Hlat.out k y hy
      have hR : vs = _ := hR
      subst hR
      have a0 : wr.cell? ⟨b, off + k * 3, none⟩ = some (.string ⟨y.key.toArray⟩) := (HB.out.cell (p := ⟨b, off + k * 3, none⟩) hbw).trans (hcc 0 _ rfl)
      have a1 : wr.cell? ⟨b, off + k * 3 + 1, none⟩ = some (.string ⟨y.num.toArray⟩) := (HB.out.cell (p := ⟨b, off + k * 3 + 1, none⟩) hbw).trans (hcc 1 _ rfl)
      have a2 : wr.cell? ⟨b, off + k * 3 + 2, none⟩ = some (.int .i64 y.page) := (HB.out.cell (p := ⟨b, off + k * 3 + 2, none⟩) hbw).trans (hcc 2 _ rfl)
      have hlt' : (k : Int) < (x.labs.length : Int) := by omega
      have hkl : (k : Int) + 1 ≤ 9223372036854775807 := by omega
      have Hy := Lib.hid hy
      clear hcc hy
      cases hp : (y.key == key)
      · have Hp := Lib.hid hp
        go_wp2_with fail
        go_roundw
        case rel => exact ⟨k + 1, by omega, by go_num, find_miss _ k y key Hy.out Hno.out Hp.out, Hbk.out.alloc Hbk.out.size _⟩
        case measure => simp [intOf]; omega
      · have Hp := Lib.hid hp
        have Hr := Lib.hid (find_hit _ k y key Hy.out Hno.out hp)
        go_upto_region 5 with fail
        obtain ⟨w9, hw9⟩ : ∃ w9, w9 = wr.alloc (.cells #[.string ⟨y.key.toArray⟩, .string ⟨y.num.toArray⟩, .int .i64 y.page] 42) := ⟨_, rfl⟩
        have hb9 : Below wr.heap.size wr w9 := by rw [hw9]; exact below_new wr _
        have he6 : ∀ (i : Nat) (u : Value), #[Value.string ⟨y.key.toArray⟩, .string ⟨y.num.toArray⟩, .int .i64 y.page][i]? = some u → w9.cell? ⟨wr.heap.size, i, none⟩ = some u := by
          intro i u hu
          rw [hw9, cell_of_row _ _ _ _ _ _ (heap_alloc_new wr _)]
          exact hu
        have c0 := he6 0 _ rfl; have c1 := he6 1 _ rfl; have c2 := he6 2 _ rfl
        have d0 := (hb9.cell (p := ⟨w.heap.size + 1, 0, none⟩) Hzw.out).trans (Hc.out 0 _ rfl)
        have d1 := (hb9.cell (p := ⟨w.heap.size + 1, 1, none⟩) Hzw.out).trans (Hc.out 1 _ rfl)
        have d2 := (hb9.cell (p := ⟨w.heap.size + 1, 2, none⟩) Hzw.out).trans (Hc.out 2 _ rfl)
        have f0 := (frozen_below (i := 0) hb9 Hzw.out).trans (Hf.out 0)
        have f1 := (frozen_below (i := 1) hb9 Hzw.out).trans (Hf.out 1)
        have f2 := (frozen_below (i := 2) hb9 Hzw.out).trans (Hf.out 2)
        rw [← hw9]
        have HB9 := Lib.hid (HB.out.trans (hb9.mono HB.out.size))
        clear hw9 hb9 he6 a0 a1 a2 hlt' hkl
        go_wp2_with fail
        obtain ⟨z0, z1, z2⟩ := set3 (w.heap.size + 1) w9 (.string ⟨y.key.toArray⟩) (.string ⟨y.num.toArray⟩) (.int .i64 y.page) d0 d1 d2
        refine ret_cell rfl rfl (load_lab _ _ _ _ _ z0 z1 z2) rfl ⟨?_, set3_below HB9.out (by omega) _ _ _⟩
        rw [Hr.out]
        rfl
    · have hlt' : ¬ (k : Int) < (x.labs.length : Int) := by omega
      have hr : Sd.find x.labs key = none := by have h := Hno.out; rwa [List.take_of_length_le (by omega)] at h
      have Hr := Lib.hid hr
      have d0 := Hc.out 0 _ rfl
      have d1 := Hc.out 1 _ rfl
      have d2 := Hc.out 2 _ rfl
      have f0 := Hf.out 0
      have f1 := Hf.out 1
      have f2 := Hf.out 2
      clear hr
      go_wp2_with fail
      obtain ⟨z0, z1, z2⟩ := set3 (w.heap.size + 1) wr (.string ⟨#[]⟩) (.string ⟨#[]⟩) (.int .i64 0) d0 d1 d2
      refine ret_cell rfl rfl (load_lab _ _ _ _ _ z0 z1 z2) rfl ⟨?_, set3_below HB.out (by omega) _ _ _⟩
      rw [Hr.out]
      rfl
end Go.Proofs.YtimmmjmmjokdbaaGreatDoor
