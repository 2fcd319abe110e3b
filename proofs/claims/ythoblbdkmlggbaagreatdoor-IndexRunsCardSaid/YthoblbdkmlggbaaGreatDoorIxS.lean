/- Places sorted by Go's library: slices.SortFunc at places. -/
import Derived.Test.YthoblbdkmlggbaaGreatDoorIxW2
import Derived.Test.YthoblbdkmlggbaaGreatDoorShB
import Derived.Lib.QuietBelow
set_option linter.unusedSimpArgs false
set_option linter.unusedVariables false
namespace Go.Proofs.YthoblbdkmlggbaaGreatDoor
open Go.RowKit Go.Shelf Go.Sort Go.Lib
/-- places with texts that a machine can hold -/
abbrev BPl := { p : Ix.Pl // p.1.length ≤ maxLen ∧ p.2.1.length ≤ maxLen }
instance instBPl : Inhabited BPl := ⟨⟨([], [], false), by simp⟩⟩
def encP (p : BPl) : List Value := plC p.1
def cfP (p q : BPl) : Int := Ix.cp p.1 q.1
def RPl (p : Ix.Pl) (vs : List Value) : Prop := vs = plC p
theorem RPl.size (p : Ix.Pl) (vs : List Value) (h : RPl p vs) : vs.length = 3 := by rw [h]; rfl
theorem encP_len (x : BPl) : (encP x).length = 3 := rfl
theorem encP_one (x : BPl) : ∀ v ∈ encP x, v.oneCell' = true := by
  intro v hv
  unfold encP plC at hv
  simp at hv
  rcases hv with rfl | rfl | rfl <;> rfl
theorem ltP (x y : BPl) : ltOf cfP x y = decide (Ix.cp x.1 y.1 < 0) := rfl
theorem swoP : SWO (ltOf cfP) where
  irrefl x := by rw [ltP, Ix.ordP.refl]; rfl
  trans x y z h k := by
    rw [ltP] at *
    exact decide_eq_true (Ix.ordP.trans _ _ _ (of_decide_eq_true h) (of_decide_eq_true k))
  ntrans x y z h k := by
    rw [ltP] at *
    have h1 := of_decide_eq_false h
    have h2 := of_decide_eq_false k
    refine decide_eq_false fun h3 => ?_
    have a1 := Ix.ordP.anti x.1 y.1
    have a2 := Ix.ordP.anti y.1 z.1
    by_cases e1 : Ix.cp x.1 y.1 = 0
    · rw [Ix.ordP.eq0 _ _ e1] at h3; exact h2 h3
    · by_cases e2 : Ix.cp y.1 z.1 = 0
      · rw [← Ix.ordP.eq0 _ _ e2] at h3; exact h1 h3
      · have := Ix.ordP.trans _ _ _ (show Ix.cp z.1 y.1 < 0 by omega) (show Ix.cp y.1 x.1 < 0 by omega)
        have := Ix.ordP.anti x.1 z.1
        omega
theorem totP (x y : BPl) (h : ltOf cfP x y = false) (k : ltOf cfP y x = false) : x = y := by
  rw [ltP] at *
  have h1 := of_decide_eq_false h
  have h2 := of_decide_eq_false k
  have := Ix.ordP.anti x.1 y.1
  exact Subtype.ext (Ix.ordP.eq0 _ _ (by omega))
theorem grown_of (w w' : World) (h : Below w.heap.size w w') (d : Dr w w') : ∃ q os, w' = Sort.grow (w.drewN q) os := by
  obtain ⟨p, hp⟩ := regrown_of_below h
  refine ⟨p.d - w.drawn, p.os, ?_⟩
  have hd : p.d = w'.drawn := by rw [hp]; rfl
  have hd2 : w.drawn ≤ w'.drawn := d
  rw [hp]
  have : redrawn w p.d = w.drewN (p.d - w.drawn) := by
    unfold redrawn World.drewN
    have : w.drawn + (p.d - w.drawn) = p.d := by omega
    rw [this]
  rw [this]
theorem cmpP (blk off size : Nat) (w : World) : CmpLays Tryz.prog 57 #[] encP 3 cfP blk off size w := by
  intro m os dk _ x y
  have h := ix_order x.1 y.1 (sortWorldK encP 3 w blk off m dk os) x.2 y.2
  refine Calls.mono h ?_
  rintro e w' ⟨rfl, hb, hd⟩
  obtain ⟨q, os', hw⟩ := grown_of _ _ hb hd
  exact ⟨rfl, q, os', hw⟩
theorem eg_order : ∀ args w, (callFunc 57 args).run Tryz.prog w = .ok (.enter 57 args) w := enters_of Tryz.func57 (by kernel_rfl) rfl
theorem flat_at (d : Array BPl) (i j : Nat) (hi : i < d.size) (hj : j < 3) : (flatK encP 3 d)[i * 3 + j]! = (encP d[i]!)[j]! := by
  rw [get_flatK _ _ _ _ (by omega)]
  rw [show (i * 3 + j) / 3 = i by omega, show (i * 3 + j) % 3 = j by omega]
/-- a row of places in memory, as the library wants it -/
theorem holdsP {B g cap e : Nat} {w : World} {l : List BPl} {fl : List Value} (h : w.ownsRow B e 3 (.slice (some ⟨g, 0, none⟩) l.length cap) l.length fl) (hr : RepRow RPl (l.map (·.1)) fl) : HoldsK encP 3 w g 0 l.toArray := by
  have hl : fl.length = l.length * 3 := h.1
  rcases h.2 with ⟨hv, _⟩ | ⟨g', cap', cur, hv, _, hg, hle, _, hcs, hcur⟩
  · cases hv
  · simp only [Value.slice.injEq, Option.some.injEq, Addr.mk.injEq] at hv
    obtain ⟨⟨rfl, _⟩, _, rfl⟩ := hv
    intro t ht
    rw [size_flatK] at ht
    simp only [List.size_toArray] at ht
    refine ⟨?_, frozen_of_row _ _ _ _ _ hg⟩
    obtain ⟨i, j, hj, rfl⟩ : ∃ i j, j < 3 ∧ t = i * 3 + j := ⟨t / 3, t % 3, by omega, by omega⟩
    have hi : i < l.length := by omega
    obtain ⟨vs, hvs, hat⟩ := RepRow.get RPl.size hr (i := i) (x := (l[i]).1) (by rw [List.getElem?_map, List.getElem?_eq_getElem hi]; rfl)
    have hvs : vs = _ := hvs
    subst hvs
    have hpl : (plC (l[i]).1)[j]? = some ((encP l[i])[j]!) := by
      rw [List.getElem?_eq_getElem (by show j < 3; exact hj), getElem!_pos _ j (by show j < 3; exact hj)]
      rfl
    have h1 := hat j _ hpl
    rw [flat_at _ _ _ (by simpa using hi) hj, getElem!_pos _ i (by simpa using hi), Nat.zero_add]
    rw [World.ownsRow.cellAt h (i * 3 + j) (by omega)]
    exact h1
theorem rowP {g cap : Nat} {w : World} {d : List BPl} (h : HoldsK encP 3 w g 0 d.toArray) (hc : d.length ≤ cap) (hm : cap ≤ maxLen) (hg : g < w.heap.size) : SliceIn (fun b => b = g) 3 RPl w (.slice (some ⟨g, 0, none⟩) d.length cap) (d.map (·.1)) := by
  refine ⟨_, cap, by rw [List.length_map], by rw [List.length_map]; exact hc, hm, fun i x hi => ⟨g, 0, plC x, rfl, rfl, hg, rfl, fun j u hj => ?_⟩⟩
  rw [List.getElem?_map] at hi
  cases hd : d[i]? with
  | none => rw [hd] at hi; cases hi
  | some y =>
    rw [hd] at hi
    obtain rfl := Option.some.inj hi
    obtain ⟨hlt, he⟩ := List.getElem?_eq_some_iff.1 hd
    have hj3 : j < 3 := by have := (List.getElem?_eq_some_iff.1 hj).1; exact this
    have := (h (i * 3 + j) (by rw [size_flatK]; simp; omega)).1
    rw [flat_at _ _ _ (by simpa using hlt) hj3, getElem!_pos _ i (by simpa using hlt)] at this
    rw [this]
    simp only [List.getElem_toArray, he]
    obtain ⟨h1, h2⟩ := List.getElem?_eq_some_iff.1 hj
    rw [← h2, getElem!_pos _ j h1]
    rfl
theorem sort_up (l : List BPl) (hn : (l.map (·.1)).Nodup) : ∃ s : List BPl, (l.mergeSort fun x y => !(ltOf cfP) y x) = s ∧ s.length = l.length ∧ Ix.Up Ix.cp (s.map (·.1)) ∧ ∀ p, p ∈ s.map (·.1) ↔ p ∈ l.map (·.1) := by
  have hperm := List.mergeSort_perm l fun x y => !(ltOf cfP) y x
  refine ⟨_, rfl, by simp, ?_, fun p => (hperm.map _).mem_iff⟩
  have hs := List.pairwise_mergeSort (le := fun (x y : BPl) => !(ltOf cfP) y x) (fun a b c h1 h2 => by
    simp only [Bool.not_eq_true'] at *
    exact swoP.ntrans _ _ _ h2 h1) (fun a b => by
    cases h : ltOf cfP b a
    · rfl
    · have := swoP.irrefl a
      cases h2 : ltOf cfP a b
      · rfl
      · have := swoP.trans _ _ _ h2 h
        rw [swoP.irrefl] at this; cases this) l
  have hnd : ((l.mergeSort fun x y => !(ltOf cfP) y x).map (·.1)).Nodup := (hperm.map _).nodup_iff.2 hn
  refine List.pairwise_map.2 ?_
  have hnd' := List.pairwise_map.1 hnd
  refine (hs.and hnd').imp ?_
  rintro a b ⟨h, hne⟩
  simp only [Bool.not_eq_true', ltP] at h
  have h1 := of_decide_eq_false h
  have := Ix.ordP.anti a.1 b.1
  by_cases e : Ix.cp a.1 b.1 = 0
  · exact absurd (Ix.ordP.eq0 _ _ e) hne
  · omega
theorem ix_sort (B g cap e : Nat) (l : List BPl) (fl : List Value) (w : World) (h : w.ownsRow B e 3 (.slice (some ⟨g, 0, none⟩) l.length cap) l.length fl) (hr : RepRow RPl (l.map (·.1)) fl) (hn : (l.map (·.1)).Nodup) (hl : l.length ≤ 100000000) :
    Calls Tryz.prog 56 #[.slice (some ⟨g, 0, none⟩) l.length cap, .func (.func 57) #[] #[]] w fun e w' => e = .returned (.tuple #[]) ∧
      ∃ s : List Ix.Pl, SliceIn (fun b => b = g) 3 RPl w' (.slice (some ⟨g, 0, none⟩) s.length cap) s ∧ s.length = l.length ∧ Ix.Up Ix.cp s ∧ (∀ p, p ∈ s ↔ p ∈ l.map (·.1)) ∧ w.grownBy w' (some g) := by
  have hH := holdsP h hr
  have hcap : l.length ≤ cap ∧ cap ≤ maxLen := by
    rcases h.2 with ⟨hv, _⟩ | ⟨g', cap', cur, hv, _, hg, hle, hm, hcs, hcur⟩
    · cases hv
    · simp only [Value.slice.injEq] at hv
      obtain ⟨_, _, rfl⟩ := hv
      exact ⟨hle, hm⟩
  have hg : g < w.heap.size := (h.lt g rfl).2
  have h1 := AnyQ.slices_SortFunc_total Tryz.lSF 3 Tryz.isAgg62 Tryz.sizeOf62 encP encP_len encP_one cfP swoP 57 #[] g 0 cap l.toArray w eg_order (cmpP _ _ _ _) hH hg (by simp; omega) totP
  change Calls Tryz.prog 56 _ _ _ at h1
  obtain ⟨s, hs, hsl, hup, hmem⟩ := sort_up l hn
  simp only [List.size_toArray] at h1
  refine h1.mono ?_
  rintro e w' ⟨rfl, n, os, rfl⟩
  have e1 : (l.toArray.toList.mergeSort fun x y => !(ltOf cfP) y x) = s := hs
  rw [e1]
  have h2 : HoldsK encP 3 (sortWorldK encP 3 w g 0 n s.toArray os) g 0 s.toArray := by
    have h3 : Holds id (putRow id (Sort.ahead w n) g 0 (flatK encP 3 s.toArray)) g 0 (flatK encP 3 s.toArray) := holds_putRow id (Sort.ahead w n) g 0 (flatK encP 3 l.toArray) (flatK encP 3 s.toArray) hH (by rw [size_flatK, size_flatK]; simp [hsl])
    exact holds_grow id _ os g 0 _ (by show g < (putRow id (Sort.ahead w n) g 0 _).heap.size; rw [size_putRow]; exact hg) h3
  have hgw : g < (sortWorldK encP 3 w g 0 n s.toArray os).heap.size := by
    show g < (Sort.grow _ os).heap.size
    rw [Sort.size_grow]
    show g < (putRow id (Sort.ahead w n) g 0 _).heap.size + _
    rw [size_putRow]
    exact Nat.lt_of_lt_of_le hg (Nat.le_add_right _ _)
  refine ⟨rfl, s.map (·.1), ?_, by rw [List.length_map, hsl], hup, hmem, ?_⟩
  · have := rowP h2 (by rw [hsl]; exact hcap.1) hcap.2 hgw
    rwa [List.length_map]
  · refine ⟨rfl, rfl, rfl, ?_, fun k hk hne => ?_⟩
    · show w.heap.size ≤ (Sort.grow _ os).heap.size
      rw [Sort.size_grow]
      show w.heap.size ≤ (putRow id (Sort.ahead w n) g 0 _).heap.size + _
      rw [size_putRow]
      exact Nat.le_add_right _ _
    · show (Sort.grow (putRow id (Sort.ahead w n) g 0 _) os).heap[k]? = _
      rw [heap_grow_old _ _ (by show k < (putRow id (Sort.ahead w n) g 0 _).heap.size; rw [size_putRow]; exact hk)]
      show ((Sort.ahead w n).heap.modify g _)[k]? = _
      rw [Array.getElem?_modify, if_neg (fun e => hne (by rw [e]))]
      rfl
end Go.Proofs.YthoblbdkmlggbaaGreatDoor
