/- Bounds on what package label picks, and the answers of the fixed calls. Plain Lean. -/
import Derived.Test.YtanbcokkfbidbaaGreatDoorLbL
namespace Go.Proofs.YtanbcokkfbidbaaGreatDoor.Lb
open Ent
theorem addF_mem (own : List Fld) : ∀ (fs acc : List Fld), (∀ f ∈ addF own acc fs, f ∈ acc ∨ f ∈ fs) ∧ (addF own acc fs).length ≤ acc.length + fs.length
  | [], acc => ⟨fun f hf => .inl hf, Nat.le_refl _⟩
  | g :: r, acc => by
    unfold addF
    have h := addF_mem own r (if (Ent.get own g.name).2 then acc else acc ++ [g])
    refine ⟨fun f hf => ?_, ?_⟩
    · rcases h.1 f hf with h1 | h1
      · split at h1
        · exact .inl h1
        · rcases List.mem_append.1 h1 with h2 | h2
          · exact .inl h2
          · exact .inr (by simp at h2; simp [h2])
      · exact .inr (List.mem_cons_of_mem _ h1)
    · refine Nat.le_trans h.2 ?_
      rw [List.length_cons]
      split
      · omega
      · rw [List.length_append, List.length_singleton]; omega
theorem wholeN_mem (l : List Ent) (M : Nat) (hM : ∀ x ∈ l, x.fields.length ≤ M) : ∀ (n : Nat) (key : List UInt8) (seen : List (List UInt8)) (fs r : List Fld) (e : Int), wholeN l n key seen fs = (some r, e) → (∀ f ∈ r, f ∈ fs ∨ ∃ x ∈ l, f ∈ x.fields) ∧ r.length ≤ fs.length + M * n
  | 0, _, _, _, _, _, h => by simp [wholeN] at h
  | n + 1, key, seen, fs, r, e, h => by
    rw [wholeN] at h
    split at h
    · simp at h
    · next x hx =>
      have hxm : x ∈ l := List.mem_of_find?_eq_some hx
      have ha := addF_mem fs x.fields fs
      have hMx := hM x hxm
      dsimp only at h
      split at h
      · simp only [Prod.mk.injEq, Option.some.injEq] at h
        obtain ⟨rfl, _⟩ := h
        refine ⟨fun f hf => (ha.1 f hf).imp id fun h => ⟨x, hxm, h⟩, ?_⟩
        rw [Nat.mul_succ]; have := ha.2; omega
      · split at h
        · simp at h
        · have ih := wholeN_mem l M hM n _ _ _ r e h
          refine ⟨fun f hf => ?_, ?_⟩
          · rcases ih.1 f hf with h1 | h1
            · exact (ha.1 f h1).imp id fun h => ⟨x, hxm, h⟩
            · exact .inr h1
          · rw [Nat.mul_succ]; have := ha.2; have := ih.2; omega
/-- an entry as the laws cut it -/
structure EntS (x : Ent) : Prop where
  kind : x.kind.length ≤ 400
  key : x.key.length ≤ 400
  name : ∀ f ∈ x.fields, f.name.length ≤ 400
  text : ∀ f ∈ x.fields, f.text.length ≤ 400
  many : x.fields.length ≤ 10
theorem EntS.b {x : Ent} (h : EntS x) : EntB x := ⟨by have := h.kind; omega, by have := h.key; omega, fun f hf => by have := h.name f hf; omega, h.text, by have := h.many; omega⟩
theorem wholeE_ok (l : List Ent) (h : ∀ x ∈ l, EntS x) (hl : l.length ≤ 18) (key : List UInt8) (x : Ent) (hw : (wholeE l key).1 = some x) : EntB x ∧ x.key ∈ l.map (·.key) := by
  unfold wholeE at hw
  split at hw
  · next fs e hr =>
    dsimp only at hw
    cases hf : findE l key with
    | none => rw [hf] at hw; cases hw
    | some y =>
      rw [hf] at hw
      simp only [Option.map_some, Option.some.injEq] at hw
      have hym : y ∈ l := List.mem_of_find?_eq_some hf
      have hm := wholeN_mem l 10 (fun x hx => (h x hx).many) _ _ _ _ _ _ hr
      have hb := (h y hym)
      subst hw
      refine ⟨⟨by have := hb.kind; show y.kind.length ≤ 1000; omega, by have := hb.key; show y.key.length ≤ 1000; omega, fun f hf => ?_, fun f hf => ?_, ?_⟩, List.mem_map.2 ⟨y, hym, rfl⟩⟩
      · rcases hm.1 f hf with h1 | ⟨z, hz, h1⟩
        · cases h1
        · have := (h z hz).name f h1; omega
      · rcases hm.1 f hf with h1 | ⟨z, hz, h1⟩
        · cases h1
        · exact (h z hz).text f h1
      · have := hm.2; simp only [List.length_nil] at this; show fs.length ≤ 1000; omega
  · cases hw
theorem pick_mem (l : List Ent) (ks : List (List UInt8)) (x : Ent) (hx : x ∈ (pick l ks).1) : ∃ k, (wholeE l k).1 = some x := by
  unfold pick at hx
  rw [pick_fresh] at hx
  obtain ⟨k, _, hk⟩ := List.mem_filterMap.1 hx
  exact ⟨k, hk⟩
theorem pick_ok (l : List Ent) (h : ∀ x ∈ l, EntS x) (hl : l.length ≤ 18) (ks : List (List UInt8)) : (∀ x ∈ (pick l ks).1, EntB x) ∧ (pick l ks).1.length ≤ l.length := by
  refine ⟨fun x hx => ?_, ?_⟩
  · obtain ⟨k, hk⟩ := pick_mem l ks x hx
    exact (wholeE_ok l h hl k x hk).1
  · have := List.Nodup.length_le_of_subset (pick_keys l ks) (l₂ := l.map (·.key)) (fun q hq => by
      obtain ⟨x, hx, rfl⟩ := List.mem_map.1 hq
      obtain ⟨k, hk⟩ := pick_mem l ks x hx
      exact (wholeE_ok l h hl k x hk).2)
    rwa [List.length_map, List.length_map] at this
def entSb (x : Ent) : Bool := decide (x.kind.length ≤ 400) && decide (x.key.length ≤ 400) && x.fields.all (fun f => decide (f.name.length ≤ 400) && decide (f.text.length ≤ 400)) && decide (x.fields.length ≤ 10)
theorem entS_of (x : Ent) (h : entSb x = true) : EntS x := by
  unfold entSb at h
  simp only [Bool.and_eq_true, decide_eq_true_eq, List.all_eq_true] at h
  obtain ⟨⟨⟨h1, h2⟩, h3⟩, h4⟩ := h
  exact ⟨h1, h2, fun f hf => (h3 f hf).1, fun f hf => (h3 f hf).2, h4⟩
/-! ### the fixed calls -/
def kn : List UInt8 := [68, 111, 110, 97, 108, 100, 32, 75, 110, 117, 116, 104]
def eA : Ent := ⟨[98, 111, 111, 107], [97], [⟨authorW, kn⟩, ⟨titleW, [84]⟩, ⟨yearW, [49, 57, 56, 52]⟩]⟩
def eB : Ent := ⟨[98, 111, 111, 107], [98], [⟨authorW, kn⟩, ⟨titleW, [83]⟩, ⟨yearW, [49, 57, 56, 52]⟩]⟩
def eC : Ent := ⟨[120], [99], [⟨crossW, [97]⟩, ⟨[110, 111, 116, 101], [110]⟩, ⟨titleW, [79, 119, 110]⟩]⟩
def eC2 : Ent := ⟨[120], [99], [⟨crossW, [97]⟩, ⟨[110, 111, 116, 101], [110]⟩, ⟨titleW, [79, 119, 110]⟩, ⟨authorW, kn⟩, ⟨yearW, [49, 57, 56, 52]⟩]⟩
def fixL : List Ent := [eA, eB, eC, ⟨[120], [100], [⟨crossW, [101]⟩]⟩, ⟨[120], [101], [⟨crossW, [100]⟩]⟩, ⟨[120], [102], [⟨crossW, [103]⟩]⟩]
instance : DecidableEq Fld := fun a b => decidable_of_iff (a.name = b.name ∧ a.text = b.text) ⟨fun ⟨h1, h2⟩ => by cases a; cases b; simp_all, fun h => by rw [h]; exact ⟨rfl, rfl⟩⟩
instance : DecidableEq Ent := fun a b => decidable_of_iff (a.kind = b.kind ∧ a.key = b.key ∧ a.fields = b.fields) ⟨fun ⟨h1, h2, h3⟩ => by cases a; cases b; simp_all, fun h => by rw [h]; exact ⟨rfl, rfl, rfl⟩⟩
theorem fix_s : ∀ x ∈ fixL, EntS x := fun x hx => entS_of x ((List.all_eq_true.1 (show fixL.all entSb = true by decide +kernel)) x hx)
theorem fix_c : wholeN fixL (fixL.length + 1) [99] [] [] = (some eC2.fields, 0) := by decide +kernel
theorem fix_fc : findE fixL [99] = some eC := by decide +kernel
theorem fix_d : wholeN fixL (fixL.length + 1) [100] [] [] = (none, 15) := by decide +kernel
theorem fix_f : wholeN fixL (fixL.length + 1) [102] [] [] = (none, 14) := by decide +kernel
theorem fix_g : wholeN fixL (fixL.length + 1) [103] [] [] = (none, 14) := by decide +kernel
theorem fix_p1 : pick fixL [[97], [98], [97], [103], [100]] = ([eA, eB], [(14, [103]), (15, [100])]) := by decide +kernel
theorem fix_p2 : pick fixL [[97], [99]] = ([eA, eC2], []) := by decide +kernel
theorem fix_o1 : order [eA, eB] = [eB, eA] := by decide +kernel
theorem fix_o2 : order [eA, eC2] = [eC2, eA] := by decide +kernel
theorem fix_l1 : letters eB = [75, 110, 117, 56, 52] ∧ letters eA = [75, 110, 117, 56, 52] := by decide +kernel
theorem fix_t1 : textOf eB = [68, 46, 32, 75, 110, 117, 116, 104, 46, 32, 83, 46, 32, 49, 57, 56, 52, 46] := by decide +kernel
theorem fix_t0 : textOf ⟨[], [], []⟩ = [] := by decide +kernel
theorem fix_x : Cnt.text 1 3 = [97] ∧ Cnt.text 2 3 = [98] := by decide +kernel
end Go.Proofs.YtanbcokkfbidbaaGreatDoor.Lb
