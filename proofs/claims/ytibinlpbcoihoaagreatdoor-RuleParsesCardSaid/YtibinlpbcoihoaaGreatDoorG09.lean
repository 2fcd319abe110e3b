/- The walks of package name, third part: join, the last small word, Split. The walks of package name, fourth part: Split, vonLast. The walks of package name, fifth part: vonLast, Split at commas, a Person's cells. The walks of package name, sixth part: Parse. The walks of package label, first part: find, field, small. The plain law of package label's order: sorting keeps the entries, is done at once, and hangs on no order where no key is there twice. Plain Lean. Lengths of what package name and package label make. Plain Lean. The walks of package name, last part (Short, Label), and label.authors. The walks of cmp.Or and of the comparison of two entries. errors.As at the target *api.Errno over a *wire.wrong: the first link is another type, the second one hits. After the kit's worked example. -/
import Derived.Test.YtibinlpbcoihoaaGreatDoorG08
import Derived.StillTailTactics
import Derived.Test.YtibinlpbcoihoaaGreatDoorG00
import Derived.Test.YtibinlpbcoihoaaGreatDoorG02
import Derived.Test.YtibinlpbcoihoaaGreatDoorG03
import Derived.Test.YtibinlpbcoihoaaGreatDoorChecked
import Derived.Test.YtibinlpbcoihoaaGreatDoorShelf
import Derived.Test.YtibinlpbcoihoaaGreatDoorG04
import Derived.WalkKit
import Derived.LaidEql
import Derived.Stop.Asserts
import Derived.RowKitTokens
set_option linter.unusedSimpArgs false
set_option linter.unusedVariables false
namespace Go.Proofs.YtibinlpbcoihoaaGreatDoor
open Go.RowKit
set_option maxRecDepth 100000 in
set_option maxHeartbeats 1600000 in
theorem nm_Index (l : List (List UInt8)) (y : List UInt8) (v : Value) (S : Nat → Prop) (w : World) (hS : SliceIn S 1 RStr w v l) :
    Calls Tryz.prog 91 #[v, .string ⟨y.toArray⟩] w fun e w' => e = .returned (.int .i64 (ixP (fun s => s == y) l)) ∧ w = w' := by
  have hlm := hS.bound
  obtain ⟨pa, cap, rfl, hle, hm, hat⟩ := hS
  have Hat := Lib.hid hat
  clear hat hm hle
  go_enter Tryz.func91, Tryz.ntmps91
  go_wp2_with fail
  go_loopw [8] (fun iv wr => ∃ k : Nat, k ≤ l.length ∧ iv = .int .i64 (k : Int) ∧ (l.take k).any (fun s => s == y) = false ∧ wr = w) (fun iv _ => l.length - (intOf iv).toNat)
  case atStart => exact ⟨0, Nat.zero_le _, rfl, rfl, rfl⟩
  case round =>
    obtain ⟨k, hk, rfl, hany, rfl⟩ := hrel
    have Hany := Lib.hid hany; clear hany
    by_cases hlt : k < l.length
    · obtain ⟨x, hx⟩ : ∃ x, l[k]? = some x := ⟨_, List.getElem?_eq_getElem hlt⟩
      obtain ⟨b, off, vs, rfl, _, hbw, hR, hc⟩ := Hat.out k x hx
      have hR : vs = _ := hR
      subst hR
      have e0 : wr.cell? ⟨b, off + k, none⟩ = some (.string ⟨x.toArray⟩) := by
        have := hc 0 _ rfl
        rwa [Nat.mul_one, Nat.add_zero] at this
      have hlt' : (k : Int) < (l.length : Int) := by omega
      obtain ⟨k1, hk1⟩ : ∃ k1, k1 = k + 1 := ⟨_, rfl⟩
      have hwk : IntKind.i64.wrap ((k : Int) + 1) = (k1 : Int) := by rw [IntWalk.i64_in _ (by omega)]; omega
      have Hx := Lib.hid hx; have Hlt := Lib.hid hlt; have Hk1 := Lib.hid hk1
      clear hc hx hlt hk hk1
      by_cases hxy : x = y
      · have Hxy := Lib.hid hxy
        have Hr := Lib.hid (ixP_hit (fun s => s == y) l k x Hx.out Hany.out (by simp [hxy]))
        have hyx : y = x := hxy.symm
        clear hxy
        subst hyx
        go_wp2_with fail
        go_ret
        exact ⟨ret_int Hr.out.symm, rfl⟩
      · have hyx : (y == x) = false := beq_eq_false_iff_ne.2 fun e => hxy e.symm
        have Hxy := Lib.hid hxy
        clear hxy
        go_wp2_with fail
        go_roundw
        case rel => exact ⟨k1, by have := Hlt.out; have := Hk1.out; omega, rfl, by rw [Hk1.out]; exact any_take _ _ _ _ Hx.out Hany.out (by simpa using Hxy.out), trivial⟩
        case measure => have := Hlt.out; have := Hk1.out; simp [intOf]; omega
    · have hlt' : ¬ (k : Int) < (l.length : Int) := by omega
      have Hr := Lib.hid (ixP_miss (fun s => s == y) l (by have := Hany.out; rwa [List.take_of_length_le (by omega)] at this))
      clear hlt hk
      go_wp2_with fail
      go_ret
      exact ⟨ret_int Hr.out.symm, rfl⟩
theorem SliceIn.suf {α : Type} {S : Nat → Prop} {size : Nat} {R : α → List Value → Prop} {w : World} {b o n cap : Nat} {xs : List α} (h : SliceIn S size R w (.slice (some ⟨b, o, none⟩) n cap) xs) (k : Nat) (hk : k ≤ xs.length) : SliceIn S size R w (.slice (some ⟨b, o + k * size, none⟩) (n - k) (cap - k)) (xs.drop k) := by
  obtain ⟨p1, cap1, hv, h1, h2, h3⟩ := h
  simp only [Value.slice.injEq] at hv
  obtain ⟨rfl, rfl, rfl⟩ := hv
  refine ⟨_, cap - k, by rw [List.length_drop], by rw [List.length_drop]; omega, by omega, fun i x hi => ?_⟩
  rw [List.getElem?_drop] at hi
  obtain ⟨b', off, vs, hp, hS, hlt, hR, hc⟩ := h3 (k + i) x hi
  simp only [Option.some.injEq, Addr.mk.injEq, and_true] at hp
  obtain ⟨rfl, rfl⟩ := hp
  refine ⟨_, _, vs, rfl, hS, hlt, hR, fun j u hj => ?_⟩
  have := hc j u hj
  rw [show o + k * size + (i * size + j) = o + ((k + i) * size + j) by rw [Nat.add_mul]; omega]
  exact this
end Go.Proofs.YtibinlpbcoihoaaGreatDoor
set_option linter.unusedSimpArgs false
set_option linter.unusedVariables false
namespace Go.Proofs.YtibinlpbcoihoaaGreatDoor
open Go.RowKit
def lenOf : Value → Nat | .slice _ n _ => n | _ => 0
theorem SliceIn.strong {α : Type} {S : Nat → Prop} {size : Nat} {R : α → List Value → Prop} {w : World} {v : Value} {xs : List α} (h : SliceIn S size R w v xs) : SliceIn (fun j => S j ∧ j < w.heap.size) size R w v xs := by
  obtain ⟨p, cap, hv, h1, h2, h3⟩ := h
  refine ⟨p, cap, hv, h1, h2, fun i x hi => ?_⟩
  obtain ⟨b, off, vs, hp, hS, hlt, hR, hc⟩ := h3 i x hi
  exact ⟨b, off, vs, hp, ⟨hS, hlt⟩, hlt, hR, hc⟩
end Go.Proofs.YtibinlpbcoihoaaGreatDoor
set_option linter.unusedSimpArgs false
set_option linter.unusedVariables false
namespace Go.Proofs.YtibinlpbcoihoaaGreatDoor
open Go.RowKit
theorem SliceIn.cellS {S : Nat → Prop} {w : World} {b o n c : Nat} {l : List (List UInt8)} (h : SliceIn S 1 RStr w (.slice (some ⟨b, o, none⟩) n c) l) {i : Nat} {x : List UInt8} (hx : l[i]? = some x) : w.cell? ⟨b, o + i, none⟩ = some (.string ⟨x.toArray⟩) := by
  obtain ⟨p, cap, hv, _, _, hat⟩ := h
  obtain ⟨b', off, vs, hp, _, _, hR, hc⟩ := hat i x hx
  simp only [Value.slice.injEq] at hv
  rw [hp] at hv
  simp only [Option.some.injEq, Addr.mk.injEq, and_true] at hv
  obtain ⟨⟨rfl, rfl⟩, _⟩ := hv
  have hR : vs = _ := hR
  subst hR
  have := hc 0 _ rfl
  rwa [Nat.mul_one, Nat.add_zero] at this
/-- four cells of the call's own -/
structure P4 (W : World) (g : Nat) (a b c d : Value) : Prop where
  c0 : W.cell? ⟨g, 0, none⟩ = some a
  c1 : W.cell? ⟨g, 1, none⟩ = some b
  c2 : W.cell? ⟨g, 2, none⟩ = some c
  c3 : W.cell? ⟨g, 3, none⟩ = some d
  f : ∀ i, W.frozen? ⟨g, i, none⟩ = false
  lt : g < W.heap.size
section
variable {W W' : World} {g : Nat} {a b c d : Value}
theorem P4.new (w : World) (t : TypeId) (a b c d : Value) : P4 (w.alloc (.cells #[a, b, c, d] t)) w.heap.size a b c d := by
  have h : ∀ (i : Nat) (u : Value), #[a, b, c, d][i]? = some u → (w.alloc (.cells #[a, b, c, d] t)).cell? ⟨w.heap.size, i, none⟩ = some u := by
    intro i u hu
    rw [cell_of_row _ _ _ _ _ _ (heap_alloc_new w _)]
    exact hu
  exact ⟨h 0 _ rfl, h 1 _ rfl, h 2 _ rfl, h 3 _ rfl, fun i => by simp, lt_alloc w _⟩
theorem P4.below (h : P4 W g a b c d) {B : Nat} (hb : Below B W W') (hg : g < B) : P4 W' g a b c d :=
  ⟨(hb.cell (p := ⟨g, 0, none⟩) hg).trans h.c0, (hb.cell (p := ⟨g, 1, none⟩) hg).trans h.c1, (hb.cell (p := ⟨g, 2, none⟩) hg).trans h.c2, (hb.cell (p := ⟨g, 3, none⟩) hg).trans h.c3,
   fun i => (World.frozen?_of_block (hb.block g hg)).trans (h.f i), Nat.lt_of_lt_of_le h.lt hb.size⟩
theorem P4.below' (h : P4 W g a b c d) (hb : Below W.heap.size W W') : P4 W' g a b c d := h.below hb h.lt
theorem P4.drew (h : P4 W g a b c d) : P4 W.drew g a b c d := ⟨h.c0, h.c1, h.c2, h.c3, h.f, h.lt⟩
theorem P4.other (h : P4 W g a b c d) {k : Nat} (hk : k ≠ g) (i : Nat) (v : Value) : P4 (W.setCell ⟨k, i, none⟩ v) g a b c d := by
  have e : ∀ j, (W.setCell ⟨k, i, none⟩ v).cell? ⟨g, j, none⟩ = W.cell? ⟨g, j, none⟩ := fun j => World.cell?_setCell_other _ _ _ _ (fun e => hk (by cases e; rfl))
  exact ⟨(e 0).trans h.c0, (e 1).trans h.c1, (e 2).trans h.c2, (e 3).trans h.c3, fun j => by simpa using h.f j, by simpa using h.lt⟩
theorem P4.set0 (h : P4 W g a b c d) (v : Value) : P4 (W.setCell ⟨g, 0, none⟩ v) g v b c d :=
  ⟨World.cell?_setCell_same _ _ _ h.c0, (World.cell?_setCell_other _ _ _ _ (by simp)).trans h.c1, (World.cell?_setCell_other _ _ _ _ (by simp)).trans h.c2, (World.cell?_setCell_other _ _ _ _ (by simp)).trans h.c3, fun j => by simpa using h.f j, by simpa using h.lt⟩
theorem P4.set1 (h : P4 W g a b c d) (v : Value) : P4 (W.setCell ⟨g, 1, none⟩ v) g a v c d :=
  ⟨(World.cell?_setCell_other _ _ _ _ (by simp)).trans h.c0, World.cell?_setCell_same _ _ _ h.c1, (World.cell?_setCell_other _ _ _ _ (by simp)).trans h.c2, (World.cell?_setCell_other _ _ _ _ (by simp)).trans h.c3, fun j => by simpa using h.f j, by simpa using h.lt⟩
theorem P4.set2 (h : P4 W g a b c d) (v : Value) : P4 (W.setCell ⟨g, 2, none⟩ v) g a b v d :=
  ⟨(World.cell?_setCell_other _ _ _ _ (by simp)).trans h.c0, (World.cell?_setCell_other _ _ _ _ (by simp)).trans h.c1, World.cell?_setCell_same _ _ _ h.c2, (World.cell?_setCell_other _ _ _ _ (by simp)).trans h.c3, fun j => by simpa using h.f j, by simpa using h.lt⟩
theorem P4.set3 (h : P4 W g a b c d) (v : Value) : P4 (W.setCell ⟨g, 3, none⟩ v) g a b c v :=
  ⟨(World.cell?_setCell_other _ _ _ _ (by simp)).trans h.c0, (World.cell?_setCell_other _ _ _ _ (by simp)).trans h.c1, (World.cell?_setCell_other _ _ _ _ (by simp)).trans h.c2, World.cell?_setCell_same _ _ _ h.c3, fun j => by simpa using h.f j, by simpa using h.lt⟩
theorem P4.all (h : P4 W g a b c d) (a' b' c' d' : Value) : P4 ((((W.setCell ⟨g, 0, none⟩ a').setCell ⟨g, 1, none⟩ b').setCell ⟨g, 2, none⟩ c').setCell ⟨g, 3, none⟩ d') g a' b' c' d' :=
  (((h.set0 a').set1 b').set2 c').set3 d'
end
theorem SliceIn.set4 {α : Type} {S : Nat → Prop} {size : Nat} {R : α → List Value → Prop} {w : World} {v : Value} {xs : List α} (h : SliceIn S size R w v xs) {g : Nat} (hg : ∀ j, S j → j ≠ g) (i : Nat) (u : Value) : SliceIn S size R (w.setCell ⟨g, i, none⟩ u) v xs :=
  h.kept (fun _ h => h) (by simp [World.setCell]) (fun j hj _ => Below.heap_setCell _ _ _ _ (hg j hj)) (fun _ _ _ h => h)
theorem ret_one {P : Program} {fn : Func} {R : Ending → World → Prop} {a : Act} {w : World} {v : Value} {p : Tmp} {ty : TypeId} {ad : Addr} (h : fn.results = #[.cell p ty]) (hp : a.tmps.getD p undef = .pointer (some ad))
    (hl : (loadVar ty ad).run P w = .ok v w) (hd : a.defers = []) (hR : R (.returned v) w) : bodyPost P fn R .ret a w := by
  refine bodyPost_ret (v := v) ?_ hd hR
  have hp' : a.tmps[p]?.getD undef = .pointer (some ad) := by simpa using hp
  simp [results, h, hp', asAddr, hl]
end Go.Proofs.YtibinlpbcoihoaaGreatDoor
set_option linter.unusedSimpArgs false
set_option linter.unusedVariables false
namespace Go.Proofs.YtibinlpbcoihoaaGreatDoor
open Go.RowKit
structure PSt (w W : World) (g q : Nat) (a b c d : Value) (v : Value) (l : List (List UInt8)) : Prop where
  p : P4 W g a b c d
  r : P4 W q (.string ⟨#[]⟩) (.string ⟨#[]⟩) (.string ⟨#[]⟩) (.string ⟨#[]⟩)
  s : SliceIn (fun j => j < g) 1 RStr W v l
  h : Below w.heap.size w W
  hq : q < g
  hw : w.heap.size ≤ q
section
variable {w W W' : World} {g q : Nat} {a b c d v : Value} {l : List (List UInt8)}
theorem PSt.below (h : PSt w W g q a b c d v l) (hb : Below W.heap.size W W') : PSt w W' g q a b c d v l :=
  ⟨h.p.below' hb, h.r.below' hb, h.s.below' hb, h.h.trans (hb.mono h.h.size), h.hq, h.hw⟩
theorem PSt.drew (h : PSt w W g q a b c d v l) : PSt w W.drew g q a b c d v l :=
  h.below (Below.refl _ _).drew
theorem PSt.set (h : PSt w W g q a b c d v l) (i : Nat) (u : Value) {a' b' c' d' : Value} (hp : P4 (W.setCell ⟨g, i, none⟩ u) g a' b' c' d') : PSt w (W.setCell ⟨g, i, none⟩ u) g q a' b' c' d' v l :=
  ⟨hp, h.r.other (Nat.ne_of_gt h.hq) i u, h.s.set4 (fun j hj => Nat.ne_of_lt hj) i u, h.h.setCell (p := ⟨g, i, none⟩) (Nat.le_trans h.hw (Nat.le_of_lt h.hq)) u, h.hq, h.hw⟩
end
end Go.Proofs.YtibinlpbcoihoaaGreatDoor
set_option linter.unusedSimpArgs false
set_option linter.unusedVariables false
namespace Go.Proofs.YtibinlpbcoihoaaGreatDoor
open Go.RowKit
/-- three cells of a block: an entry -/
structure E3 (W : World) (g : Nat) (a b c : Value) : Prop where
  c0 : W.cell? ⟨g, 0, none⟩ = some a
  c1 : W.cell? ⟨g, 1, none⟩ = some b
  c2 : W.cell? ⟨g, 2, none⟩ = some c
  f : ∀ i, W.frozen? ⟨g, i, none⟩ = false
  lt : g < W.heap.size
section
variable {W W' : World} {g : Nat} {a b c : Value}
theorem E3.new (w : World) (t : TypeId) (a b c : Value) : E3 (w.alloc (.cells #[a, b, c] t)) w.heap.size a b c := by
  have h : ∀ (i : Nat) (u : Value), #[a, b, c][i]? = some u → (w.alloc (.cells #[a, b, c] t)).cell? ⟨w.heap.size, i, none⟩ = some u := by
    intro i u hu
    rw [cell_of_row _ _ _ _ _ _ (heap_alloc_new w _)]
    exact hu
  exact ⟨h 0 _ rfl, h 1 _ rfl, h 2 _ rfl, fun i => by simp, lt_alloc w _⟩
theorem E3.below (h : E3 W g a b c) {B : Nat} (hb : Below B W W') (hg : g < B) : E3 W' g a b c :=
  ⟨(hb.cell (p := ⟨g, 0, none⟩) hg).trans h.c0, (hb.cell (p := ⟨g, 1, none⟩) hg).trans h.c1, (hb.cell (p := ⟨g, 2, none⟩) hg).trans h.c2,
   fun i => (World.frozen?_of_block (hb.block g hg)).trans (h.f i), Nat.lt_of_lt_of_le h.lt hb.size⟩
theorem E3.below' (h : E3 W g a b c) (hb : Below W.heap.size W W') : E3 W' g a b c := h.below hb h.lt
theorem E3.drew (h : E3 W g a b c) : E3 W.drew g a b c := ⟨h.c0, h.c1, h.c2, h.f, h.lt⟩
theorem E3.other (h : E3 W g a b c) {k : Nat} (hk : k ≠ g) (i : Nat) (v : Value) : E3 (W.setCell ⟨k, i, none⟩ v) g a b c := by
  have e : ∀ j, (W.setCell ⟨k, i, none⟩ v).cell? ⟨g, j, none⟩ = W.cell? ⟨g, j, none⟩ := fun j => World.cell?_setCell_other _ _ _ _ (fun e => hk (by cases e; rfl))
  exact ⟨(e 0).trans h.c0, (e 1).trans h.c1, (e 2).trans h.c2, fun j => by simpa using h.f j, by simpa using h.lt⟩
theorem E3.set0 (h : E3 W g a b c) (v : Value) : E3 (W.setCell ⟨g, 0, none⟩ v) g v b c :=
  ⟨World.cell?_setCell_same _ _ _ h.c0, (World.cell?_setCell_other _ _ _ _ (by simp)).trans h.c1, (World.cell?_setCell_other _ _ _ _ (by simp)).trans h.c2, fun j => by simpa using h.f j, by simpa using h.lt⟩
theorem E3.set1 (h : E3 W g a b c) (v : Value) : E3 (W.setCell ⟨g, 1, none⟩ v) g a v c :=
  ⟨(World.cell?_setCell_other _ _ _ _ (by simp)).trans h.c0, World.cell?_setCell_same _ _ _ h.c1, (World.cell?_setCell_other _ _ _ _ (by simp)).trans h.c2, fun j => by simpa using h.f j, by simpa using h.lt⟩
theorem E3.set2 (h : E3 W g a b c) (v : Value) : E3 (W.setCell ⟨g, 2, none⟩ v) g a b v :=
  ⟨(World.cell?_setCell_other _ _ _ _ (by simp)).trans h.c0, (World.cell?_setCell_other _ _ _ _ (by simp)).trans h.c1, World.cell?_setCell_same _ _ _ h.c2, fun j => by simpa using h.f j, by simpa using h.lt⟩
theorem E3.all (h : E3 W g a b c) (a' b' c' : Value) : E3 (((W.setCell ⟨g, 0, none⟩ a').setCell ⟨g, 1, none⟩ b').setCell ⟨g, 2, none⟩ c') g a' b' c' :=
  ((h.set0 a').set1 b').set2 c'
end
theorem SliceIn.shape {α : Type} {S : Nat → Prop} {size : Nat} {R : α → List Value → Prop} {w : World} {v : Value} {xs : List α} (h : SliceIn S size R w v xs) : ∃ p n c, v = .slice p n c := by
  obtain ⟨p, c, h, _⟩ := h
  exact ⟨p, _, c, h⟩
end Go.Proofs.YtibinlpbcoihoaaGreatDoor
namespace Go.Proofs.YtibinlpbcoihoaaGreatDoor.Lb
open Ent
theorem u8_lt_tr {a b c : UInt8} (h : a < b) (k : b < c) : a < c := UInt8.lt_trans h k
theorem cmpB_cons (x y : UInt8) (a b : List UInt8) : cmpB (x :: a) (y :: b) = if x < y then -1 else if y < x then 1 else cmpB a b := rfl
theorem cmpB_eq0 : ∀ a b : List UInt8, cmpB a b = 0 → a = b
  | [], [], _ => rfl
  | [], _ :: _, h => by simp [cmpB, Lib.compareBytes] at h
  | _ :: _, [], h => by simp [cmpB, Lib.compareBytes] at h
  | x :: a, y :: b, h => by
    rw [cmpB_cons] at h
    split at h
    · omega
    · next h1 =>
      split at h
      · omega
      · next h2 =>
        have : x = y := by
          refine UInt8.le_antisymm (UInt8.not_lt.1 h2) (UInt8.not_lt.1 h1)
        rw [this, cmpB_eq0 a b h]
theorem cmpB_trans : ∀ a b d : List UInt8, cmpB a b < 0 → cmpB b d < 0 → cmpB a d < 0
  | [], [], _, h, _ => by simp [cmpB, Lib.compareBytes] at h
  | _ :: _, [], _, h, _ => by simp [cmpB, Lib.compareBytes] at h
  | _, _ :: _, [], _, k => by simp [cmpB, Lib.compareBytes] at k
  | [], _ :: _, _ :: _, _, _ => by simp [cmpB, Lib.compareBytes]
  | x :: a, y :: b, z :: d, h, k => by
    rw [cmpB_cons] at h k ⊢
    have irr := UInt8.lt_irrefl
    by_cases h1 : x < y
    · by_cases k1 : y < z
      · rw [if_pos (u8_lt_tr h1 k1)]; omega
      · rw [if_neg k1] at k
        by_cases k2 : z < y
        · rw [if_pos k2] at k; omega
        · have : y = z := UInt8.le_antisymm (UInt8.not_lt.1 k2) (UInt8.not_lt.1 k1)
          rw [← this, if_pos h1]; omega
    · rw [if_neg h1] at h
      by_cases h2 : y < x
      · rw [if_pos h2] at h; omega
      · rw [if_neg h2] at h
        have e : x = y := UInt8.le_antisymm (UInt8.not_lt.1 h2) (UInt8.not_lt.1 h1)
        rw [e]
        by_cases k1 : y < z
        · rw [if_pos k1]; omega
        · rw [if_neg k1] at k ⊢
          by_cases k2 : z < y
          · rw [if_pos k2] at k; omega
          · rw [if_neg k2] at k ⊢; exact cmpB_trans a b d h k
theorem cmpL_cons (x y : List UInt8) (a b : List (List UInt8)) : cmpL (x :: a) (y :: b) = if cmpB x y = 0 then cmpL a b else cmpB x y := rfl
theorem cmpL_eq0 : ∀ a b : List (List UInt8), a.length = b.length → cmpL a b = 0 → a = b
  | [], [], _, _ => rfl
  | [], _ :: _, h, _ => by simp at h
  | _ :: _, [], h, _ => by simp at h
  | x :: a, y :: b, h, e => by
    rw [cmpL_cons] at e
    split at e
    · next h0 => rw [cmpB_eq0 _ _ h0, cmpL_eq0 a b (by simpa using h) e]
    · next h0 => exact absurd e h0
theorem cmpL_trans : ∀ a b d : List (List UInt8), a.length = b.length → b.length = d.length → cmpL a b < 0 → cmpL b d < 0 → cmpL a d < 0
  | [], [], [], _, _, h, _ => by simp [cmpL] at h
  | [], _ :: _, _, h, _, _, _ => by simp at h
  | _ :: _, [], _, h, _, _, _ => by simp at h
  | [], [], _ :: _, _, h, _, _ => by simp at h
  | _ :: _, _ :: _, [], _, h, _, _ => by simp at h
  | x :: a, y :: b, z :: d, e1, e2, h, k => by
    rw [cmpL_cons] at h k ⊢
    by_cases h0 : cmpB x y = 0
    · have := cmpB_eq0 _ _ h0
      subst this
      rw [if_pos h0] at h
      by_cases k0 : cmpB x z = 0
      · rw [if_pos k0] at k ⊢
        exact cmpL_trans a b d (by simpa using e1) (by simpa using e2) h k
      · rw [if_neg k0] at k ⊢; exact k
    · rw [if_neg h0] at h
      by_cases k0 : cmpB y z = 0
      · have := cmpB_eq0 _ _ k0
        subst this
        rw [if_neg h0]; exact h
      · rw [if_neg k0] at k
        have := cmpB_trans x y z h k
        rw [if_neg (by omega)]; exact this
theorem ordK_len (x : Ent) : (ordK x).length = 4 := rfl
theorem cmp_trans (x y z : Ent) (h : cmp x y ≤ 0) (k : cmp y z ≤ 0) : cmp x z ≤ 0 := by
  unfold cmp at h k ⊢
  by_cases h0 : cmpL (ordK x) (ordK y) = 0
  · rw [cmpL_eq0 _ _ (by rw [ordK_len, ordK_len]) h0]; exact k
  · by_cases k0 : cmpL (ordK y) (ordK z) = 0
    · rw [← cmpL_eq0 _ _ (by rw [ordK_len, ordK_len]) k0]; exact h
    · exact Int.le_of_lt (cmpL_trans (ordK x) (ordK y) (ordK z) rfl rfl (by omega) (by omega))
/-! ### keys -/
/-! ### labels -/
def tag (style : Int) (ls : List (List UInt8)) (i : Nat) (s : List UInt8) : List UInt8 :=
  if style ≠ 1 then Cnt.text ((i : Int) + 1) 0 else if 1 < ls.count s then s ++ Cnt.text ((ls.take (i + 1)).count s : Nat) 3 else s
def tagged (style : Int) (o : List Ent) : List Cited := o.mapIdx fun i x => ⟨x, tag style (o.map letters) i (letters x), textOf x⟩
def all (l : List Ent) (ks : List (List UInt8)) (style : Int) : List Cited × List (Int × List UInt8) := (tagged style (order (pick l ks).1), (pick l ks).2)
end Go.Proofs.YtibinlpbcoihoaaGreatDoor.Lb
namespace Go.Proofs.YtibinlpbcoihoaaGreatDoor.Lb
open Ent
theorem comma_le (s : List UInt8) (i : Nat) : ((commas s).getD i []).length ≤ s.length := by
  rw [List.getD_eq_getElem?_getD]
  cases h : (commas s)[i]? with
  | none => exact Nat.zero_le _
  | some p =>
    have h1 := mem_tot _ p (List.mem_of_getElem? h)
    have h2 := tot_pieces (fun c => c == 44) s []
    unfold commas at h1
    simp only [Option.getD_some]
    simp at h2; omega
theorem jw_le (s : List UInt8) : (join (words s)).length ≤ s.length + 1 := Nat.le_trans (join_le _) (tot_words _)
structure PerLe (n : Nat) (p : Per) : Prop where
  first : p.first.length ≤ n
  von : p.von.length ≤ n
  last : p.last.length ≤ n
  jr : p.jr.length ≤ n
theorem getD_le (l : List (List UInt8)) (i : Nat) : (l.getD i []).length ≤ tot l := by
  rw [List.getD_eq_getElem?_getD]
  cases h : l[i]? with
  | none => exact Nat.zero_le _
  | some p => have := mem_tot _ p (List.mem_of_getElem? h); simp only [Option.getD_some]; omega
theorem parse_len (s : List UInt8) : PerLe (s.length + 1) (parse s) := by
  have c0 := comma_le s 0; have c1 := comma_le s 1; have c2 := comma_le s 2
  have w0 := jw_le ((commas s).getD 0 []); have w1 := jw_le ((commas s).getD 1 []); have w2 := jw_le ((commas s).getD 2 [])
  have t0 := tot_words ((commas s).getD 0 [])
  have take : ∀ k, (join ((words ((commas s).getD 0 [])).take k)).length ≤ s.length + 1 := fun k => by
    have := join_le ((words ((commas s).getD 0 [])).take k); have := tot_take (words ((commas s).getD 0 [])) k; omega
  have drop : ∀ k, (join ((words ((commas s).getD 0 [])).drop k)).length ≤ s.length + 1 := fun k => by
    have := join_le ((words ((commas s).getD 0 [])).drop k); have := tot_drop (words ((commas s).getD 0 [])) k; omega
  have mid : ∀ k j, (join (((words ((commas s).getD 0 [])).take k).drop j)).length ≤ s.length + 1 := fun k j => by
    have := join_le (((words ((commas s).getD 0 [])).take k).drop j); have := tot_drop ((words ((commas s).getD 0 [])).take k) j; have := tot_take (words ((commas s).getD 0 [])) k; omega
  have nil : ([] : List UInt8).length ≤ s.length + 1 := Nat.zero_le _
  unfold parse
  dsimp only
  split
  · split
    · exact ⟨by show (join _).length ≤ _; omega, take _, drop _, by show (join _).length ≤ _; omega⟩
    · exact ⟨by show (join _).length ≤ _; omega, take _, drop _, nil⟩
  · split
    · exact ⟨nil, nil, nil, nil⟩
    · split
      · exact ⟨take _, nil, by have := getD_le (words ((commas s).getD 0 [])) ((words ((commas s).getD 0 [])).length - 1); exact Nat.le_trans this (by omega), nil⟩
      · exact ⟨take _, mid _ _, drop _, nil⟩
/-- an entry whose texts are short -/
structure EntB (x : Ent) : Prop where
  kind : x.kind.length ≤ 1000
  key : x.key.length ≤ 1000
  name : ∀ f ∈ x.fields, f.name.length ≤ 1000
  text : ∀ f ∈ x.fields, f.text.length ≤ 1000
  many : x.fields.length ≤ 1000000000
end Go.Proofs.YtibinlpbcoihoaaGreatDoor.Lb
set_option linter.unusedSimpArgs false
set_option linter.unusedVariables false
namespace Go.Proofs.YtibinlpbcoihoaaGreatDoor
open Go.RowKit
def RPer (p : Lb.Per) (vs : List Value) : Prop := vs = [.string ⟨p.first.toArray⟩, .string ⟨p.von.toArray⟩, .string ⟨p.last.toArray⟩, .string ⟨p.jr.toArray⟩]
theorem RPer.size (p : Lb.Per) (vs : List Value) (h : RPer p vs) : vs.length = 4 := by rw [h]; rfl
end Go.Proofs.YtibinlpbcoihoaaGreatDoor
set_option linter.unusedSimpArgs false
set_option linter.unusedVariables false
namespace Go.Proofs.YtibinlpbcoihoaaGreatDoor
open Go.RowKit
def RInt (n : Int) (vs : List Value) : Prop := vs = [.int .i64 n]
theorem RInt.size (n : Int) (vs : List Value) (h : RInt n vs) : vs.length = 1 := by rw [h]; rfl
end Go.Proofs.YtibinlpbcoihoaaGreatDoor
set_option linter.unusedSimpArgs false
set_option linter.unusedVariables false
namespace Go.Proofs.YtibinlpbcoihoaaGreatDoor
open Go.RowKit Go.Extern.Stop Go.Stop Go.Extern
namespace asErr
abbrev hd (t : Nat) : Value := .pointer (some ⟨9, t, none⟩)
end asErr
end Go.Proofs.YtibinlpbcoihoaaGreatDoor
