/- EntryTwo: the law's walk. -/
import Derived.Test.YtddgdfcgjjdlcaaDoorLawEBack
set_option linter.unusedSimpArgs false
set_option linter.unusedVariables false
namespace Go.Proofs.YtddgdfcgjjdlcaaDoor
open Go.RowKit
theorem has_false (c : List Ent.Ent) (k : Nat) (x : Ent.Ent) (key : List UInt8) (hx : c[k]? = some x) (h : Ent.has (c.take k) key = false) (hk : (x.key == key) = false) : Ent.has (c.take (k + 1)) key = false := by
  rw [List.take_add_one, hx]
  unfold Ent.has at h ⊢
  rw [List.any_append, h]
  simpa using hk
set_option maxRecDepth 100000 in
set_option maxHeartbeats 1600000 in
theorem ref15_has (c : List Ent.Ent) (vr : Value) (key : List UInt8) (S : Nat → Prop) (w : World) (hE : Ents S w vr c) :
    Calls Tryd.prog 19 #[vr, .string ⟨key.toArray⟩] w fun e w' => e = .returned (.bool (Ent.has c key)) ∧ Below w.heap.size w w' := by
  obtain ⟨p, cap, rfl, hle, hm, hat⟩ := hE
  have hlm : c.length ≤ 9223372036854775807 := by unfold maxLen at hm; omega
  have Hat := Lib.hid hat; clear hat hm hle
  go_enter Tryd.func19, Tryd.ntmps19
  go_wp2_with fail
  go_loopw [5] (fun i wr => ∃ k : Nat, k ≤ c.length ∧ i = .int .i64 (k : Int) ∧ Ent.has (c.take k) key = false ∧ wr = w) (fun i _ => c.length - (intOf i).toNat)
  case atStart => exact ⟨0, Nat.zero_le _, rfl, rfl, rfl⟩
  case round =>
    obtain ⟨k, hk, rfl, hno, rfl⟩ := hrel
    have Hno := Lib.hid hno; clear hno
    by_cases hlt : k < c.length
    · obtain ⟨x, hx⟩ : ∃ x, c[k]? = some x := ⟨_, List.getElem?_eq_getElem hlt⟩
      obtain ⟨b, off, vs, rfl, _, hbw, hR, hc⟩ := Hat.out k x hx
      obtain ⟨vf, rfl, _⟩ := hR
      have e1 := hc 1 _ rfl
      rw [show off + (k * 3 + 1) = off + k * 3 + 1 by omega] at e1
      have hlt' : (k : Int) < (c.length : Int) := by omega
      have hkl : (k : Int) + 1 ≤ 9223372036854775807 := by omega
      have Hx := Lib.hid hx
      clear hc hx
      cases hp : (x.key == key)
      · have Hp := Lib.hid hp
        go_wp2_with fail
        go_roundw
        case rel => exact ⟨k + 1, by omega, by go_num, has_false c k x key Hx.out Hno.out Hp.out, trivial⟩
        case measure => simp [intOf]; omega
      · have Hp := Lib.hid hp
        go_wp2_with fail
        go_ret
        refine ⟨?_, Below.refl _ _⟩
        have h : Ent.has c key = true := by unfold Ent.has; rw [List.any_eq_true]; exact ⟨x, List.mem_of_getElem? Hx.out, Hp.out⟩
        rw [h]; rfl
    · have hlt' : ¬ (k : Int) < (c.length : Int) := by omega
      go_wp2_with fail
      go_ret
      refine ⟨?_, Below.refl _ _⟩
      have h := Hno.out
      rw [List.take_of_length_le (by omega)] at h
      rw [h]; rfl

/-- entries in a row of the call's own (from N on), whose fields lie below N -/
def Want (N : Nat) (t : TypeId) (W : World) (vo : Value) (l : List Ent.Ent) : Prop := ∃ fl, W.ownsRow N t 3 vo l.length fl ∧ RepRow (REnt (fun j => j < N) W) l fl
theorem Want.below {N : Nat} {t : TypeId} {W W' : World} {vo : Value} {l : List Ent.Ent} (h : Want N t W vo l) (hb : Below W.heap.size W W') : Want N t W' vo l := by
  obtain ⟨fl, h1, h2⟩ := h
  exact ⟨fl, own_below h1 hb, h2.imp (fun x vs _ hx => hx.kept (fun _ h => h) hb.size (fun b _ hlt => hb.block b hlt))⟩
theorem Want.ents {N : Nat} {t : TypeId} {W : World} {vo : Value} {l : List Ent.Ent} (h : Want N t W vo l) : Ents (fun _ => True) W vo l := by
  obtain ⟨fl, h1, h2⟩ := h
  exact SliceIn.own h1 (h2.imp (fun x vs _ hx => hx.moved (S' := fun _ => True) (fun j _ _ => ⟨trivial, rfl⟩) (Nat.le_refl _))) (fun x vs hx => REnt.size x vs hx) rfl (fun _ _ => trivial)
theorem Want.form {N : Nat} {t : TypeId} {W : World} {vo : Value} {l : List Ent.Ent} (h : Want N t W vo l) : ∃ p cap, vo = .slice p l.length cap := by
  obtain ⟨fl, h1, _⟩ := h
  rcases h1.2 with ⟨h, h0⟩ | ⟨g, cap, cur, h, _⟩
  · exact ⟨none, 0, by rw [h, h0]⟩
  · exact ⟨_, _, h⟩
theorem Want.more {N : Nat} {t : TypeId} {W W' : World} {vo vo' vf : Value} {out : List Ent.Ent} {x : Ent.Ent} {fl : List Value} (hz : N ≤ W.heap.size) (hrep : RepRow (REnt (fun j => j < N) W) out fl)
    (hx : SliceIn (fun j => j < N) 2 RFld W vf x.fields) (hN : ∀ j, vo.ownBlock = some j → N ≤ j) (hown : W'.ownsRow N t 3 vo' (out.length + 1) (fl ++ [.string ⟨x.kind.toArray⟩, .string ⟨x.key.toArray⟩, vf])) (hg : W.grownBy W' vo.ownBlock) : Want N t W' vo' (out ++ [x]) := by
  have hk : ∀ j, j < N → j < W.heap.size → j < N ∧ W'.heap[j]? = W.heap[j]? := fun j hj hlt => ⟨hj, hg.block j hlt (fun e => by have := hN j e.symm; omega)⟩
  refine ⟨_, ?_, RepRow.snoc (x := x) ⟨vf, rfl, hx.moved hk hg.size (fun _ _ _ h => h)⟩ (hrep.imp (fun y us _ hy => hy.moved hk hg.size))⟩
  rw [List.length_append]
  exact hown
theorem one_cells {S : Nat → Prop} {W : World} (x : Ent.Ent) (vs : List Value) (h : REnt S W x vs) : ∀ u ∈ vs, u.oneCell' = true := by
  obtain ⟨vf, rfl, hF⟩ := h
  obtain ⟨p, cap, rfl, _⟩ := hF
  simp [Value.oneCell']
theorem row_cells {S : Nat → Prop} {W : World} : ∀ (l : List Ent.Ent) (fl : List Value), RepRow (REnt S W) l fl → ∀ u ∈ fl, u.oneCell' = true
  | [], fl, h, u, hu => by have : fl = [] := h; subst this; simp at hu
  | x :: l, fl, h, u, hu => by
    obtain ⟨vs, rest, rfl, h1, h2⟩ := h
    rcases List.mem_append.1 hu with e | e
    · exact one_cells x vs h1 u e
    · exact row_cells l rest h2 u e
/-- 'append([]entry.Entry{}, l...)' -/
theorem want_start (N : Nat) (t ty : TypeId) (w : World) (p : Option Addr) (cap B : Nat) (c : List Ent.Ent) (hB : Outs B 36 w (.slice p c.length cap) c) (hN : N = w.heap.size) (hc : c.length ≤ 1000) :
    ∃ v' w', (Builtin.append_ #[22, 22] ty #[.slice (some ⟨w.heap.size, 0, none⟩) 0 0, .slice p c.length cap]).run Tryd.prog (w.alloc (.cells #[] 36)) = .ok v' w' ∧ Want N 36 w' v' c ∧ Below w.heap.size w w' := by
  subst hN
  obtain ⟨i0, hi, hz0, hz1, hz2⟩ := info_parts eent_info
  have hown := own_built w w.heap.size 36 3 0 [] (Nat.le_refl _) rfl (by unfold maxLen; omega)
  have hb := below_new w (.cells #[] 36)
  obtain ⟨fl, g1, g2⟩ := hB
  have h1 := own_below g1 hb
  have hN : ∀ (j : Nat), j < w.heap.size → (w.alloc (.cells #[] 36)).heap[j]? = w.heap[j]? := fun j hj => hb.block j hj
  have hrow : RepRow (REnt (fun j => j < w.heap.size) (w.alloc (.cells #[] 36))) c fl := by
    exact g2.imp (fun x vs _ hx => by
      obtain ⟨vf, rfl, hF⟩ := hx
      refine ⟨vf, rfl, ?_⟩
      obtain ⟨pf, cf, rfl, z1, z2, hat⟩ := hF
      refine ⟨pf, cf, rfl, z1, z2, fun i f hf => ?_⟩
      obtain ⟨b, off, vs, rfl, _, hlt, hr, hcell⟩ := hat i f hf
      exact ⟨b, off, vs, rfl, hlt, Nat.lt_of_lt_of_le hlt hb.size, hr, fun j u hj => (World.cell?_of_block (hN b hlt)).trans (hcell j u hj)⟩)
  have hcells := row_cells c fl hrow
  cases p with
  | none =>
    have hc0 : c.length = 0 := by
      rcases h1.2 with ⟨_, h0⟩ | ⟨g, c1, cur, hv, _⟩
      · exact h0
      · cases hv
    rcases h1.2 with ⟨hv, _⟩ | ⟨g, c1, cur, hv, _⟩
    · injection hv with _ _ hcap
      subst hcap
      have hr := run_append_owned_none (P := Tryd.prog) (w.alloc (.cells #[] 36)) w.heap.size 22 ty 36 i0 3 Tryd.underlying22 hi _ 0 [] hown
      rw [hc0]
      refine ⟨_, _, hr, ⟨[], ?_, ?_⟩, hb⟩
      · rw [hc0]; exact hown
      · rw [List.length_eq_zero_iff.1 hc0]; rfl
    · cases hv
  | some a =>
    have ha : ∃ g, a = ⟨g, 0, none⟩ := by
      rcases h1.2 with ⟨hv, _⟩ | ⟨g, c1, cur, hv, _⟩
      · cases hv
      · injection hv with hv _ _
        injection hv with hv
        exact ⟨g, hv⟩
    obtain ⟨g, rfl⟩ := ha
    obtain ⟨v', w', hr, r2, r3, _, r4⟩ := run_append_own_at (P := Tryd.prog) (w.alloc (.cells #[] 36)) w.heap.size 22 ty 36 i0 (.agg #[.string ⟨#[]⟩, .string ⟨#[]⟩, .slice none 0 0]) 3 56 Tryd.underlying22 hi hz0 hz1 hz2 rfl (by decide) _ 0 [] hown ⟨g, 0, none⟩ c.length cap fl h1.1
      (fun j u hu => World.ownsRow.cells h1 rfl j u hu) hcells (by unfold maxLen; omega) (by omega) hb.size
    refine ⟨v', w', hr, ⟨fl, by simpa using r2, ?_⟩, ?_⟩
    · have hk : ∀ j, j < w.heap.size → j < (w.alloc (.cells #[] 36)).heap.size → j < w.heap.size ∧ w'.heap[j]? = (w.alloc (.cells #[] 36)).heap[j]? := fun j hj hlt => ⟨hj, r3.block j hlt (fun e => by injection e with e; simp at e; omega)⟩
      exact hrow.imp (fun y us _ hy => hy.moved hk r3.size)
    · exact (below_new w _).grown r3 hb.size (fun q e => by injection e with e; simp at e; omega)
theorem law_cutO (l : List Ent.Ent) (p : Option Addr) (cap : Nat) (w : World) (hE : OEnt w p l) (hl : l.length ≤ maxLen) :
    Calls Tryd.prog 8 #[.slice p l.length cap, .int .i64 8] w fun e w' => ∃ p1 c cap1, CutOk c ∧ e = .returned (.slice p1 c.length cap1) ∧ Outs w.heap.size 36 w' (.slice p1 c.length cap1) c ∧ Below w.heap.size w w' := by
  refine (law_cut l p cap 8 w hE hl (by omega)).mono ?_
  rintro e w' ⟨vo, rfl, hO, hb⟩
  have hE := hO.ents
  obtain ⟨p1, cap1, rfl, _⟩ := hE
  exact ⟨p1, _, cap1, cutok l, rfl, hO, hb⟩
end Go.Proofs.YtddgdfcgjjdlcaaDoor
