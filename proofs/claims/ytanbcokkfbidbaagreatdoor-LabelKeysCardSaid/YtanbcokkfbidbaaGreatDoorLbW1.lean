/- The walks of package label, first part: find, field, small. -/
import Derived.Test.YtanbcokkfbidbaaGreatDoorNmW7
set_option linter.unusedSimpArgs false
set_option linter.unusedVariables false
namespace Go.Proofs.YtanbcokkfbidbaaGreatDoor
open Go.RowKit
def entV (x : Ent.Ent) (vf : Value) : Value := .agg #[.string ⟨x.kind.toArray⟩, .string ⟨x.key.toArray⟩, vf]
theorem lb_find1 (kd ky key : List UInt8) (vf : Value) (q : Nat) (w : World) (hc : w.cell? ⟨q, 0, none⟩ = some (.string ⟨key.toArray⟩)) :
    Calls Tryz.prog 67 #[.agg #[.string ⟨kd.toArray⟩, .string ⟨ky.toArray⟩, vf], .pointer (some ⟨q, 0, none⟩)] w fun e w' => e = .returned (.bool (ky == key)) ∧ Below w.heap.size w w' := by
  have hb := below_new w (.cells #[.string ⟨kd.toArray⟩, .string ⟨ky.toArray⟩, vf] 27)
  have hq : q < w.heap.size := by
    rcases Nat.lt_or_ge q w.heap.size with h | h
    · exact h
    · exfalso; unfold World.cell? at hc; simp [Array.getElem?_eq_none h] at hc
  have c0 : (w.alloc (.cells #[.string ⟨kd.toArray⟩, .string ⟨ky.toArray⟩, vf] 27)).cell? ⟨q, 0, none⟩ = some (.string ⟨key.toArray⟩) := by rw [hb.cell (p := ⟨q, 0, none⟩) hq]; exact hc
  have Hb := Lib.hid hb
  clear hb
  go_enter Tryz.func67, Tryz.ntmps67
  cases ht : (ky == key)
  · go_wp2
    go_ret
    exact ⟨rfl, Hb.out⟩
  · go_wp2
    go_ret
    exact ⟨rfl, Hb.out⟩
def ixK (l : List Ent.Ent) (key : List UInt8) : Int := if l.any (fun x => x.key == key) then ((l.findIdx (fun x => x.key == key) : Nat) : Int) else -1
theorem ixK_hit (l : List Ent.Ent) (key : List UInt8) (k : Nat) (x : Ent.Ent) (hx : l[k]? = some x) (h : (l.take k).find? (fun x => x.key == key) = none) (hp : (x.key == key) = true) : ixK l key = (k : Int) ∧ Lb.findE l key = some x := by
  obtain ⟨h1, h2⟩ := List.getElem?_eq_some_iff.1 hx
  have e : l = l.take k ++ x :: l.drop (k + 1) := by
    conv => lhs; rw [← List.take_append_drop k l, List.drop_eq_getElem_cons h1, h2]
  have hn : ∀ y ∈ l.take k, (y.key == key) = false := fun y hy => by
    have := List.find?_eq_none.1 h y hy
    simpa using this
  constructor
  · unfold ixK
    have ha : l.any (fun x => x.key == key) = true := List.any_eq_true.2 ⟨x, List.mem_of_getElem? hx, hp⟩
    rw [if_pos ha]
    congr 1
    have hi : l.findIdx (fun x => x.key == key) = k := by
      rw [List.findIdx_eq h1]
      refine ⟨by rw [h2]; exact hp, fun j hj => ?_⟩
      exact hn _ (by rw [List.mem_take_iff_getElem]; exact ⟨j, by omega, rfl⟩)
    rw [hi]
  · unfold Lb.findE
    rw [e, List.find?_append, h, Option.none_or, List.find?_cons, hp]
theorem ixK_miss (l : List Ent.Ent) (key : List UInt8) (h : l.find? (fun x => x.key == key) = none) : ixK l key = -1 ∧ Lb.findE l key = none := by
  refine ⟨?_, h⟩
  unfold ixK
  rw [if_neg]
  intro ha
  obtain ⟨x, hx, hp⟩ := List.any_eq_true.1 ha
  exact List.find?_eq_none.1 h x hx hp
theorem find_take (l : List Ent.Ent) (key : List UInt8) (k : Nat) (x : Ent.Ent) (hx : l[k]? = some x) (h : (l.take k).find? (fun x => x.key == key) = none) (hp : (x.key == key) = false) : (l.take (k + 1)).find? (fun x => x.key == key) = none := by
  rw [List.take_add_one, hx, List.find?_append, h]
  simp [hp]
theorem ixK_cases (l : List Ent.Ent) (key : List UInt8) : (ixK l key = -1 ∧ Lb.findE l key = none) ∨ ∃ (k : Nat) (x : Ent.Ent), l[k]? = some x ∧ ixK l key = (k : Int) ∧ Lb.findE l key = some x := by
  cases h : l.find? (fun x => x.key == key) with
  | none => exact .inl (ixK_miss l key h)
  | some x =>
    right
    have hm := List.mem_of_find?_eq_some h
    have hp := List.find?_some h
    have ha : l.any (fun x => x.key == key) = true := List.any_eq_true.2 ⟨x, hm, hp⟩
    have hlt : l.findIdx (fun x => x.key == key) < l.length := List.findIdx_lt_length_of_exists ⟨x, hm, hp⟩
    refine ⟨l.findIdx (fun x => x.key == key), l[l.findIdx (fun x => x.key == key)], List.getElem?_eq_getElem hlt, ?_, ?_⟩
    · unfold ixK; rw [if_pos ha]
    · refine (ixK_hit l key _ _ (List.getElem?_eq_getElem hlt) ?_ (List.findIdx_getElem (w := hlt))).2
      rw [List.find?_eq_none]
      intro y hy
      rw [List.mem_take_iff_getElem] at hy
      obtain ⟨j, hj, rfl⟩ := hy
      rw [List.not_of_lt_findIdx (Nat.lt_min.1 hj).1]; exact Bool.false_ne_true
set_option maxRecDepth 100000 in
set_option maxHeartbeats 800000 in
theorem lb_ix (l : List Ent.Ent) (v : Value) (key : List UInt8) (q : Nat) (S : Nat → Prop) (w : World) (hS : Ents S w v l) (hc : w.cell? ⟨q, 0, none⟩ = some (.string ⟨key.toArray⟩)) :
    Calls Tryz.prog 66 #[v, .func (.func 67) #[] #[.pointer (some ⟨q, 0, none⟩)]] w fun e w' => e = .returned (.int .i64 (ixK l key)) ∧ Below w.heap.size w w' := by
  have hlm := SliceIn.bound hS
  have hq : q < w.heap.size := by
    rcases Nat.lt_or_ge q w.heap.size with h | h
    · exact h
    · exfalso; unfold World.cell? at hc; simp [Array.getElem?_eq_none h] at hc
  obtain ⟨pa, cap, rfl, hle, hm, hat⟩ := hS
  have Hat := Lib.hid hat; have Hc := Lib.hid hc; have Hq := Lib.hid hq
  clear hat hm hle hc hq
  go_enter Tryz.func66, Tryz.ntmps66
  go_wp2_with fail
  go_loopw [8] (fun iv wr => ∃ k : Nat, k ≤ l.length ∧ iv = .int .i64 (k : Int) ∧ (l.take k).find? (fun x => x.key == key) = none ∧ Below w.heap.size w wr) (fun iv _ => l.length - (intOf iv).toNat)
  case atStart => exact ⟨0, Nat.zero_le _, rfl, rfl, Below.refl _ _⟩
  case round =>
    obtain ⟨k, hk, rfl, hno, hb⟩ := hrel
    have Hno := Lib.hid hno; clear hno
    have hcq := (hb.cell (p := ⟨q, 0, none⟩) Hq.out).trans Hc.out
    have Hcq := Lib.hid hcq
    clear hcq
    by_cases hlt : k < l.length
    · obtain ⟨x, hx⟩ : ∃ x, l[k]? = some x := ⟨_, List.getElem?_eq_getElem hlt⟩
      obtain ⟨b, off, vs, rfl, _, hbw, hR, hc⟩ := Hat.out k x hx
      obtain ⟨vf, rfl, hF⟩ := hR
      have e0 : wr.cell? ⟨b, off + k * 3, none⟩ = some (.string ⟨x.kind.toArray⟩) := (hb.cell (p := ⟨b, off + k * 3, none⟩) hbw).trans (hc 0 _ rfl)
      have e1 : wr.cell? ⟨b, off + k * 3 + 1, none⟩ = some (.string ⟨x.key.toArray⟩) := (hb.cell (p := ⟨b, off + k * 3 + 1, none⟩) hbw).trans (hc 1 _ rfl)
      have e2 : wr.cell? ⟨b, off + k * 3 + 2, none⟩ = some vf := (hb.cell (p := ⟨b, off + k * 3 + 2, none⟩) hbw).trans (hc 2 _ rfl)
      have hlt' : (k : Int) < (l.length : Int) := by omega
      obtain ⟨k1, hk1⟩ : ∃ k1, k1 = k + 1 := ⟨_, rfl⟩
      have hwk : IntKind.i64.wrap ((k : Int) + 1) = (k1 : Int) := by rw [IntWalk.i64_in _ (by omega)]; omega
      have Hx := Lib.hid hx; have Hlt := Lib.hid hlt; have Hk1 := Lib.hid hk1; have Hb := Lib.hid hb
      clear hc hx hlt hk hk1 hb hF
      cases ht : (x.key == key)
      · have Ht := Lib.hid ht
        clear ht
        go_wp2_with (go_at_call 67; refine (lb_find1 x.kind x.key key vf q _ Hcq.out).mono ?_; rw [Ht.out]; rintro e w9 ⟨rfl, hb9⟩; have Hb9 := Lib.hid hb9; clear hb9)
        go_roundw
        case rel => exact ⟨k1, by have := Hlt.out; have := Hk1.out; omega, rfl, by rw [Hk1.out]; exact find_take _ _ _ _ Hx.out Hno.out Ht.out, bseq Hb.out Hb9.out⟩
        case measure => have := Hlt.out; have := Hk1.out; simp [intOf]; omega
      · have Ht := Lib.hid ht
        clear ht
        have Hr := Lib.hid (ixK_hit l key k x Hx.out Hno.out Ht.out).1
        go_wp2_with (go_at_call 67; refine (lb_find1 x.kind x.key key vf q _ Hcq.out).mono ?_; rw [Ht.out]; rintro e w9 ⟨rfl, hb9⟩; have Hb9 := Lib.hid hb9; clear hb9)
        go_ret
        exact ⟨ret_int Hr.out.symm, bseq Hb.out Hb9.out⟩
    · have hlt' : ¬ (k : Int) < (l.length : Int) := by omega
      have Hr := Lib.hid (ixK_miss l key (by have := Hno.out; rwa [List.take_of_length_le (by omega)] at this)).1
      have Hb := Lib.hid hb
      clear hlt hk hb
      go_wp2_with fail
      go_ret
      exact ⟨ret_int Hr.out.symm, Hb.out⟩
/-- three cells of a block: an entry -/
structure E3 (W : World) (g : Nat) (a b c : Value) : Prop where
  c0 : W.cell? ⟨g, 0, none⟩ = some a
  c1 : W.cell? ⟨g, 1, none⟩ = some b
  c2 : W.cell? ⟨g, 2, none⟩ = some c
  f : ∀ i, W.frozen? ⟨g, i, none⟩ = false
  lt : g < W.heap.size
section
variable {W W' : World} {g : Nat} {a b c : Value}
theorem E3.new (w : World) (t : TypeId) (a b c : Value) : E3 (w.alloc (.cells #[a, b, c] t)) w.heap.size a b c := by
  have h : ∀ (i : Nat) (u : Value), #[a, b, c][i]? = some u → (w.alloc (.cells #[a, b, c] t)).cell? ⟨w.heap.size, i, none⟩ = some u := by
    intro i u hu
    rw [cell_of_row _ _ _ _ _ _ (heap_alloc_new w _)]
    exact hu
  exact ⟨h 0 _ rfl, h 1 _ rfl, h 2 _ rfl, fun i => by simp, lt_alloc w _⟩
theorem E3.below (h : E3 W g a b c) {B : Nat} (hb : Below B W W') (hg : g < B) : E3 W' g a b c :=
  ⟨(hb.cell (p := ⟨g, 0, none⟩) hg).trans h.c0, (hb.cell (p := ⟨g, 1, none⟩) hg).trans h.c1, (hb.cell (p := ⟨g, 2, none⟩) hg).trans h.c2,
   fun i => (World.frozen?_of_block (hb.block g hg)).trans (h.f i), Nat.lt_of_lt_of_le h.lt hb.size⟩
theorem E3.below' (h : E3 W g a b c) (hb : Below W.heap.size W W') : E3 W' g a b c := h.below hb h.lt
theorem E3.drew (h : E3 W g a b c) : E3 W.drew g a b c := ⟨h.c0, h.c1, h.c2, h.f, h.lt⟩
theorem E3.other (h : E3 W g a b c) {k : Nat} (hk : k ≠ g) (i : Nat) (v : Value) : E3 (W.setCell ⟨k, i, none⟩ v) g a b c := by
  have e : ∀ j, (W.setCell ⟨k, i, none⟩ v).cell? ⟨g, j, none⟩ = W.cell? ⟨g, j, none⟩ := fun j => World.cell?_setCell_other _ _ _ _ (fun e => hk (by cases e; rfl))
  exact ⟨(e 0).trans h.c0, (e 1).trans h.c1, (e 2).trans h.c2, fun j => by simpa using h.f j, by simpa using h.lt⟩
theorem E3.set0 (h : E3 W g a b c) (v : Value) : E3 (W.setCell ⟨g, 0, none⟩ v) g v b c :=
  ⟨World.cell?_setCell_same _ _ _ h.c0, (World.cell?_setCell_other _ _ _ _ (by simp)).trans h.c1, (World.cell?_setCell_other _ _ _ _ (by simp)).trans h.c2, fun j => by simpa using h.f j, by simpa using h.lt⟩
theorem E3.set1 (h : E3 W g a b c) (v : Value) : E3 (W.setCell ⟨g, 1, none⟩ v) g a v c :=
  ⟨(World.cell?_setCell_other _ _ _ _ (by simp)).trans h.c0, World.cell?_setCell_same _ _ _ h.c1, (World.cell?_setCell_other _ _ _ _ (by simp)).trans h.c2, fun j => by simpa using h.f j, by simpa using h.lt⟩
theorem E3.set2 (h : E3 W g a b c) (v : Value) : E3 (W.setCell ⟨g, 2, none⟩ v) g a b v :=
  ⟨(World.cell?_setCell_other _ _ _ _ (by simp)).trans h.c0, (World.cell?_setCell_other _ _ _ _ (by simp)).trans h.c1, World.cell?_setCell_same _ _ _ h.c2, fun j => by simpa using h.f j, by simpa using h.lt⟩
theorem E3.all (h : E3 W g a b c) (a' b' c' : Value) : E3 (((W.setCell ⟨g, 0, none⟩ a').setCell ⟨g, 1, none⟩ b').setCell ⟨g, 2, none⟩ c') g a' b' c' :=
  ((h.set0 a').set1 b').set2 c'
end
theorem below3 {B g : Nat} {a0 w : World} (h : Below B a0 w) (hg : B ≤ g) (a b c : Value) : Below B a0 (((w.setCell ⟨g, 0, none⟩ a).setCell ⟨g, 1, none⟩ b).setCell ⟨g, 2, none⟩ c) :=
  ((h.setCell (p := ⟨g, 0, none⟩) hg a).setCell (p := ⟨g, 1, none⟩) hg b).setCell (p := ⟨g, 2, none⟩) hg c
theorem load_ent (g : Nat) (a b c : Value) (w : World) (h0 : w.cell? ⟨g, 0, none⟩ = some a) (h1 : w.cell? ⟨g, 1, none⟩ = some b) (h2 : w.cell? ⟨g, 2, none⟩ = some c) :
    (loadVar 27 ⟨g, 0, none⟩).run Tryz.prog w = .ok (.agg #[a, b, c]) w := by
  go_simp
theorem ret_cs {P : Program} {fn : Func} {R : Ending → World → Prop} {a : Act} {w : World} {v u : Value} {p q : Tmp} {ty : TypeId} {ad : Addr} (h : fn.results = #[.cell p ty, .tmp q]) (hp : a.tmps.getD p undef = .pointer (some ad))
    (hu : a.tmps.getD q undef = u) (hl : (loadVar ty ad).run P w = .ok v w) (hd : a.defers = []) (hR : R (.returned (.tuple #[v, u])) w) : bodyPost P fn R .ret a w := by
  refine bodyPost_ret (v := .tuple #[v, u]) ?_ hd hR
  have hp' : a.tmps[p]?.getD undef = .pointer (some ad) := by simpa using hp
  have hu' : a.tmps[q]?.getD undef = u := by simpa using hu
  simp [results, h, hp', hu', asAddr, hl]
theorem SliceIn.shape {α : Type} {S : Nat → Prop} {size : Nat} {R : α → List Value → Prop} {w : World} {v : Value} {xs : List α} (h : SliceIn S size R w v xs) : ∃ p n c, v = .slice p n c := by
  obtain ⟨p, c, h, _⟩ := h
  exact ⟨p, _, c, h⟩
def entZ : Ent.Ent := ⟨[], [], []⟩
set_option maxRecDepth 100000 in
set_option maxHeartbeats 800000 in
theorem lb_find (l : List Ent.Ent) (v : Value) (key : List UInt8) (S : Nat → Prop) (w : World) (hS : Ents S w v l) :
    Calls Tryz.prog 43 #[v, .string ⟨key.toArray⟩] w fun e w' => (∃ vf, e = .returned (.tuple #[entV ((Lb.findE l key).getD entZ) vf, .bool (Lb.findE l key).isSome]) ∧ SliceIn S 2 RFld w' vf ((Lb.findE l key).getD entZ).fields) ∧ Below w.heap.size w w' := by
  obtain ⟨o, ho⟩ : ∃ o, Lb.findE l key = o := ⟨_, rfl⟩
  have hb0 : Below w.heap.size w ((w.alloc (.cells #[.string ⟨key.toArray⟩] 9)).alloc (.cells #[.string ⟨#[]⟩, .string ⟨#[]⟩, .slice none 0 0] 27)) := ((Below.refl _ _).alloc (Nat.le_refl _) _).alloc (by simp) _
  have hE0 := E3.new (w.alloc (.cells #[.string ⟨key.toArray⟩] 9)) 27 (.string ⟨#[]⟩) (.string ⟨#[]⟩) (.slice none 0 0)
  have hz : (w.alloc (.cells #[.string ⟨key.toArray⟩] 9)).heap.size = w.heap.size + 1 := by simp
  rw [hz] at hE0
  have hc0 : ((w.alloc (.cells #[.string ⟨key.toArray⟩] 9)).alloc (.cells #[.string ⟨#[]⟩, .string ⟨#[]⟩, .slice none 0 0] 27)).cell? ⟨w.heap.size, 0, none⟩ = some (.string ⟨key.toArray⟩) := by
    rw [(below_new (w.alloc (.cells #[.string ⟨key.toArray⟩] 9)) _).cell (p := ⟨w.heap.size, 0, none⟩) (by simp)]
    rw [cell_of_row _ _ _ _ _ _ (heap_alloc_new w _)]; rfl
  have HE := Lib.hid hS; have HE0 := Lib.hid hE0; have Hb0 := Lib.hid hb0; have Hc0 := Lib.hid hc0
  have hlm := SliceIn.bound hS
  obtain ⟨pa, cap, rfl, hle, hm, hat⟩ := hS
  have Hat := Lib.hid hat
  clear hE0 hb0 hc0 hz hat hle hm
  rw [ho]
  rcases ixK_cases l key with ⟨hix, hf⟩ | ⟨k, x, hx, hix, hf⟩
  · have Hix := Lib.hid hix
    have hon : o = none := ho.symm.trans hf
    subst hon
    clear hix hf
    go_enter Tryz.func43, Tryz.ntmps43
    go_wp2_with (go_at_call 66; refine (lb_ix l _ key _ S _ (Ents.below HE.out Hb0.out) Hc0.out).mono ?_; rw [Hix.out]; rintro e w1 ⟨rfl, hb1⟩; have hE1 := HE0.out.below' hb1; have Hb1 := Lib.hid hb1; clear hb1; have c0 := hE1.c0; have c1 := hE1.c1; have c2 := hE1.c2; have f0 := hE1.f 0; have f1 := hE1.f 1; have f2 := hE1.f 2; have HE1 := Lib.hid hE1; clear hE1)
    have hF := HE1.out.all (.string ⟨#[]⟩) (.string ⟨#[]⟩) (.slice none 0 0)
    refine ret_cs rfl rfl rfl (load_ent _ _ _ _ _ hF.c0 hF.c1 hF.c2) rfl ⟨⟨_, rfl, SliceIn.nil _ _ _ _⟩, below3 (bseq Hb0.out Hb1.out) (by simp) _ _ _⟩
  · have Hix := Lib.hid hix; have Hx := Lib.hid hx
    have hos : o = some x := ho.symm.trans hf
    subst hos
    have hkl : k < l.length := (List.getElem?_eq_some_iff.1 hx).1
    have hlt' : (k : Int) < (l.length : Int) := by omega
    have hk0 : ¬ (k : Int) < 0 := by omega
    obtain ⟨b, off, vs, rfl, _, hbw, hR, hc⟩ := Hat.out k x hx
    obtain ⟨vf, rfl, hF⟩ := hR
    obtain ⟨pf, nf, cf, hvf⟩ := SliceIn.shape hF
    subst hvf
    have d0 := hc 0 _ rfl; have d1 := hc 1 _ rfl; have d2 := hc 2 _ rfl
    have D0 := Lib.hid d0; have D1 := Lib.hid d1; have D2 := Lib.hid d2; have HF := Lib.hid hF; have Hbw := Lib.hid hbw
    clear hix hf hx ho hc d0 d1 d2 hF hbw hkl
    go_enter Tryz.func43, Tryz.ntmps43
    go_wp2_with (go_at_call 66; refine (lb_ix l _ key _ S _ (Ents.below HE.out Hb0.out) Hc0.out).mono ?_; rw [Hix.out]; rintro e w1 ⟨rfl, hb1⟩; have hE1 := HE0.out.below' hb1; have Hb1 := Lib.hid (bseq Hb0.out hb1); clear hb1; have c0 := hE1.c0; have c1 := hE1.c1; have c2 := hE1.c2; have f0 := hE1.f 0; have f1 := hE1.f 1; have f2 := hE1.f 2; have HE1 := Lib.hid hE1; clear hE1; have d0 := (Hb1.out.cell (p := ⟨b, off + k * 3, none⟩) Hbw.out).trans D0.out; have d1 := (Hb1.out.cell (p := ⟨b, off + k * 3 + 1, none⟩) Hbw.out).trans D1.out; have d2 := (Hb1.out.cell (p := ⟨b, off + k * 3 + 2, none⟩) Hbw.out).trans D2.out)
    have hF := HE1.out.all (.string ⟨x.kind.toArray⟩) (.string ⟨x.key.toArray⟩) (.slice pf nf cf)
    have hbF := below3 (a := .string ⟨x.kind.toArray⟩) (b := .string ⟨x.key.toArray⟩) (c := .slice pf nf cf) Hb1.out (Nat.le_succ w.heap.size)
    refine ret_cs rfl rfl rfl (load_ent _ _ _ _ _ hF.c0 hF.c1 hF.c2) rfl ?_
    exact ⟨⟨_, rfl, SliceIn.below' HF.out hbF⟩, hbF⟩
theorem lb_field (x : Ent.Ent) (vf : Value) (n : List UInt8) (S : Nat → Prop) (w : World) (hF : SliceIn S 2 RFld w vf x.fields) :
    Calls Tryz.prog 37 #[.agg #[.string ⟨x.kind.toArray⟩, .string ⟨x.key.toArray⟩, vf], .string ⟨n.toArray⟩] w fun e w' => e = .returned (.string ⟨(Lb.field x n).toArray⟩) ∧ Below w.heap.size w w' := by
  have hb0 := below_new w (.cells #[.string ⟨x.kind.toArray⟩, .string ⟨x.key.toArray⟩, vf] 27)
  have hE := E3.new w 27 (.string ⟨x.kind.toArray⟩) (.string ⟨x.key.toArray⟩) vf
  have c0 := hE.c0; have c1 := hE.c1; have c2 := hE.c2
  have HF := Lib.hid (SliceIn.below' hF hb0); have Hb0 := Lib.hid hb0
  clear hF hE hb0
  go_enter Tryz.func37, Tryz.ntmps37
  go_wp2_with (go_at_call 27; refine (entry_get x.fields _ _ vf n S _ HF.out).mono ?_; rintro e w1 ⟨rfl, hb1⟩; have Hb1 := Lib.hid hb1; clear hb1)
  go_ret
  exact ⟨rfl, bseq Hb0.out Hb1.out⟩
end Go.Proofs.YtanbcokkfbidbaaGreatDoor
