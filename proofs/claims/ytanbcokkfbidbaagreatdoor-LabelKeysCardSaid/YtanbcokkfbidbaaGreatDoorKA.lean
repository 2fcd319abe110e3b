/- Slices of structs as they are handed in, opened as lists: elements of any kind. No program in sight. The walk of stetlaw17.keys: texts as they are handed in, cut. A parameter of type []string, opened as a list of texts. The walks of the reference of layer 1: each function returns what the plain model of package count computes. -/
import Derived.Test.YtanbcokkfbidbaaGreatDoorRep
import Derived.Deep.Slices
import Derived.Deep.Strs
import Derived.OpenShut
import Derived.ProofKit
import Derived.Test.YtanbcokkfbidbaaGreatDoorLbWd
import Derived.Test.YtanbcokkfbidbaaGreatDoorCA
import Derived.Test.YtanbcokkfbidbaaGreatDoorCntT
import Derived.Deep.RegionHeld3
set_option linter.unusedSimpArgs false
set_option linter.unusedVariables false
namespace Go.Proofs.YtanbcokkfbidbaaGreatDoor
section
open Go.ChangeShapes Go.WideShapes Go.RowKit
/-- the i-th cell behind an address that may have a spot -/
def cellAddr (b o : Nat) (sp : Option Nat) : Nat → Addr
  | 0 => ⟨b, o, sp⟩
  | i + 1 => ⟨b, o + (i + 1), none⟩
def OSl {α : Type} (n : Nat) (R : α → List Value → Prop) (w : World) (p : Option Addr) (l : List α) : Prop :=
  ∀ j x, l[j]? = some x → ∃ (a : Addr) (b o : Nat) (sp : Option Nat) (vs : List Value), p = some a ∧ a.add (j * n) = ⟨b, o, sp⟩ ∧ b < w.heap.size ∧ R x vs ∧ ∀ i u, vs[i]? = some u → w.cell? (cellAddr b o sp i) = some u
theorem OSl.nil {α : Type} (n : Nat) (R : α → List Value → Prop) (w : World) (p : Option Addr) : OSl n R w p [] := fun j x h => by simp at h
theorem cellAddr_block (b o : Nat) (sp : Option Nat) (i : Nat) : (cellAddr b o sp i).block = b := by cases i <;> rfl
theorem OSl.below {α : Type} {n : Nat} {R R' : α → List Value → Prop} {w w' : World} {p : Option Addr} {l : List α} (h : OSl n R w p l) (hb : Below w.heap.size w w') (hR : ∀ x vs, x ∈ l → R x vs → R' x vs) : OSl n R' w' p l := by
  intro j x hj
  obtain ⟨a, b, o, sp, vs, e1, e2, e3, e4, e5⟩ := h j x hj
  exact ⟨a, b, o, sp, vs, e1, e2, Nat.lt_of_lt_of_le e3 hb.size, hR x vs (List.mem_of_getElem? hj) e4, fun i u hi => (hb.cell (by rw [cellAddr_block]; exact e3)).trans (e5 i u hi)⟩
theorem addG_zero (a : Addr) : a.add 0 = a := by unfold Addr.add; rw [if_pos rfl]
theorem addG_succ (a : Addr) (i : Nat) : a.add (i + 1) = ⟨a.block, a.off + (i + 1), none⟩ := by unfold Addr.add; rw [if_neg (by omega)]
theorem addG_cell (a : Addr) (i : Nat) : a.add i = cellAddr a.block a.off a.spot i := by
  cases i with
  | zero => exact addG_zero a
  | succ i => exact addG_succ a i
section
variable {P : Program} {H : Type} {enc : TypeId × Value → H} {w : World}
theorem slice_open {α : Type} [Inhabited α] {t e : TypeId} {n k : Nat} {R : α → List Value → Prop} (ht : P.underlying t = some (.slice e)) (hc : P.cellsOf e = n) (hn : 0 < n)
    (hone : ∀ m cs y, DataW.trod enc P w 0 (fun _ => true) true m e cs = some y → ∃ x, R x cs) {c : Value} {y : DataW H × List MemPlace} (h : DataW.trod enc P w 0 (fun _ => true) true k t [c] = some y) :
    ∃ (p : Option Addr) (l : List α) (cap : Nat), c = .slice p l.length cap ∧ l.length ≤ maxLen ∧ OSl n R w p l := by
  rcases Go.Deep.open_slice ht h with ⟨hcs, _⟩ | ⟨a, len, cap, m, k', D, Pl, hcs, _, hl, hm, hmm, _, hi⟩
  · simp at hcs
    subst hcs
    exact ⟨none, [], 0, rfl, Nat.zero_le _, OSl.nil _ _ _ _⟩
  · simp at hcs hmm
    subst hcs
    have each : ∀ i, ∃ x : α, i < len → ∃ (b o : Nat) (sp : Option Nat) (vs : List Value), a.add (i * n) = ⟨b, o, sp⟩ ∧ b < w.heap.size ∧ R x vs ∧ ∀ j u, vs[j]? = some u → w.cell? (cellAddr b o sp j) = some u := by
      intro i
      by_cases hil : i < len
      · obtain ⟨cs', h1, h2⟩ := hi i (by omega)
        rw [hc] at h1
        obtain ⟨x, hx⟩ := hone _ _ _ h2
        obtain ⟨_, hlen, hat⟩ := World.cells?_some h1
        refine ⟨x, fun _ => ⟨_, _, _, cs', rfl, ?_, hx, fun j u hj => ?_⟩⟩
        · have hj0 : 0 < n := hn
          have := hat 0 (by omega)
          rw [addG_zero] at this
          obtain ⟨v, hv⟩ : ∃ v, cs'[0]? = some v := ⟨_, List.getElem?_eq_getElem (by omega)⟩
          exact World.block_lt_of_cell? w _ (this.trans hv)
        · have hj2 := (List.getElem?_eq_some_iff.1 hj).1
          have := hat j (by omega)
          rw [addG_cell] at this
          exact this.trans hj
      · exact ⟨default, fun h => absurd h hil⟩
    refine ⟨some a, (List.range len).map fun i => Classical.choose (each i), cap, by simp, by simp; omega, fun j f hj => ?_⟩
    rw [List.getElem?_map] at hj
    obtain ⟨i, hr, rfl⟩ := Option.map_eq_some_iff.1 hj
    obtain ⟨h1, h2⟩ : j < len ∧ j = i := by
      have hlt := (List.getElem?_eq_some_iff.1 hr).1
      simp at hlt
      rw [List.getElem?_range hlt] at hr
      exact ⟨hlt, by simpa using hr⟩
    subst h2
    obtain ⟨b, o, sp, vs, e1, e2, e3, e4⟩ := Classical.choose_spec (each j) h1
    exact ⟨a, b, o, sp, vs, rfl, e1, e2, e3, e4⟩
theorem trod_struct4 {t : TypeId} {f0 f1 f2 f3 : Go.Field} {fuel : Nat} {cs : List Value} {x : DataW H × List MemPlace} {base : Nat} {spare : Nat → Bool} {held : Bool} (ht : P.underlying t = some (.struct #[f0, f1, f2, f3])) (h : DataW.trod enc P w base spare held fuel t cs = some x) :
    ∃ y0 y1 y2 y3 n, cs.length = P.cellsOf t ∧ DataW.trod enc P w base spare held n f0.type ((cs.drop f0.offset).take (P.cellsOf f0.type)) = some y0 ∧
      DataW.trod enc P w base spare held n f1.type ((cs.drop f1.offset).take (P.cellsOf f1.type)) = some y1 ∧ DataW.trod enc P w base spare held n f2.type ((cs.drop f2.offset).take (P.cellsOf f2.type)) = some y2 ∧
      DataW.trod enc P w base spare held n f3.type ((cs.drop f3.offset).take (P.cellsOf f3.type)) = some y3 := by
  obtain ⟨xs, n, _, rfl, hl, hlen, hf⟩ := DataW.trod_struct ht h
  match xs, hlen with
  | [y0, y1, y2, y3], _ => exact ⟨y0, y1, y2, y3, n, hl, by simpa using hf 0 f0 rfl, by simpa using hf 1 f1 rfl, by simpa using hf 2 f2 rfl, by simpa using hf 3 f3 rfl⟩
end
end
section
open Go.RowKit
def IStr (s : List UInt8) (vs : List Value) : Prop := vs = [.string ⟨s.toArray⟩] ∧ s.length ≤ maxLen
def cut80 (s : List UInt8) : List UInt8 := s.take 80
theorem cut_text8 (s : List UInt8) : ∃ q : Nat, min (s.length : Int) 80 = (q : Int) ∧ q ≤ s.length ∧ (q : Int) ≤ (s.length : Int) ∧ (⟨s.toArray⟩ : ByteArray).extract 0 q = ⟨(cut80 s).toArray⟩ := cut_textN 80 s
set_option maxRecDepth 100000 in
set_option maxHeartbeats 3200000 in
theorem law17_keys (l : List (List UInt8)) (p : Option Addr) (cap : Nat) (w : World) (hE : OSl 1 IStr w p l) (hl : l.length ≤ maxLen) :
    Calls Tryz.prog 13 #[.slice p l.length cap] w fun e w' => ∃ v, e = .returned v ∧ OwnL w.heap.size 9 1 RStr w' v ((l.take 10).map cut80) ∧ Below w.heap.size w w' := by
  have HE := Lib.hid hE; clear hE
  have hlm : l.length ≤ 9223372036854775807 := by unfold maxLen at hl; omega
  obtain ⟨i0, hi, hz0, hz1, hz2⟩ := info_parts str_info
  have Hi := Lib.hid hi; have Hz0 := Lib.hid hz0; have Hz1 := Lib.hid hz1; have Hz2 := Lib.hid hz2; clear hi hz0 hz1 hz2
  go_enter Tryz.func13, Tryz.ntmps13
  go_wp2_with fail
  go_loopw [3, 4] (fun v iv wr => ∃ k : Nat, k ≤ l.length ∧ k ≤ 10 ∧ iv = .int .i64 (k : Int) ∧ OwnL w.heap.size 9 1 RStr wr v ((l.take k).map cut80) ∧ Below w.heap.size w wr) (fun _ iv _ => l.length - (intOf iv).toNat)
  case atStart => exact ⟨0, Nat.zero_le _, Nat.zero_le _, rfl, OwnL.made _ _ _ _ _ (Nat.le_refl _), below_new w _⟩
  case round =>
    obtain ⟨k, hk, hkn, rfl, hO, hb⟩ := hrel
    have HO := Lib.hid hO; have Hb := Lib.hid hb
    clear hO hb
    by_cases hlt : k < l.length
    · by_cases hltn : k < 10
      · obtain ⟨x, hx⟩ : ∃ x, l[k]? = some x := ⟨_, List.getElem?_eq_getElem hlt⟩
        obtain ⟨a, b, o, sp, vs, rfl, hadd, hbw, ⟨hR, hxl⟩, hcc⟩ := HE.out k x hx
        subst hR
        rw [Nat.mul_one] at hadd
        have e0 : wr.cell? ⟨b, o, sp⟩ = some (.string ⟨x.toArray⟩) := (Hb.out.cell (p := ⟨b, o, sp⟩) hbw).trans (hcc 0 _ rfl)
        obtain ⟨q, m1, m2, m3, m4⟩ := cut_text8 x
        have hlt' : (k : Int) < (l.length : Int) := by omega
        have hltn' : (k : Int) < 10 := by omega
        have hkl : (k : Int) + 1 ≤ 9223372036854775807 := by omega
        have htk : (l.take (k + 1)).map cut80 = (l.take k).map cut80 ++ [cut80 x] := by rw [List.take_add_one, hx]; simp
        have htl : ((l.take k).map cut80).length ≤ 1000 := by rw [List.length_map, List.length_take]; omega
        obtain ⟨tk, htk0⟩ : ∃ tk, (l.take k).map cut80 = tk := ⟨_, rfl⟩
        rw [htk0] at HO htk htl
        have Htk := Lib.hid htk; have Hkl := Lib.hid hkl; have Hlt := Lib.hid hlt; have Hltn := Lib.hid hltn
        obtain ⟨fl, hown, hrep⟩ := HO.out
        obtain ⟨pv, capv, hfv⟩ := HO.out.form
        subst hfv
        have Hrep := Lib.hid hrep
        have hbz := Nat.lt_of_lt_of_le hbw Hb.out.size
        clear hcc hx htk hkl htk0 hrep
        go_upto_region 5 with fail
        have hS : (fun W : World => W.cell? ⟨b, o, sp⟩ = some (.string ⟨x.toArray⟩)) wr.drew := e0
        dsimp only at hS
        have hb8 : Below wr.heap.size wr wr.drew := (Below.refl _ _).drew
        have hown8 := own_below hown hb8
        have HB8 := Lib.hid (Hb.out.trans (hb8.mono Hb.out.size))
        have hbz8 : b < wr.drew.heap.size := hbz
        refine wp_region_any (by kernel_rfl) ?_
        change wpAny _ _ _ _ _ _ _ (World.drew _)
        generalize wr.drew = w8 at hS hown8 HB8 hbz8 ⊢
        have Hown := Lib.hid hown8
        clear e0 hown hown8 hb8
        refine wpAny_of_held (S := fun W => W.cell? ⟨b, o, sp⟩ = some (.string ⟨x.toArray⟩)) _ _ _ _ ?_
        refine wpAnyH_take (i := 0) (v := .slice pv tk.length capv) rfl (by kernel_rfl) (by kernel_rfl) (by kernel_rfl) (fun _ _ _ h => h) (Or.inl ⟨by kernel_rfl, fun W hW => by kernel_rfl⟩) (by assumption) ?_
        try simp only [Act.put, List.getElem_toArray, List.getElem_cons_zero, List.getElem_cons_succ, List.setIfInBounds_toArray, List.set_cons_zero, List.set_cons_succ]
        refine wpAnyH_take (i := 1) (v := .slice (some a) l.length cap) rfl (by kernel_rfl) (by kernel_rfl) (by kernel_rfl) (fun _ _ _ h => h) (Or.inl ⟨by kernel_rfl, fun W hW => by kernel_rfl⟩) (by assumption) ?_
        try simp only [Act.put, List.getElem_toArray, List.getElem_cons_zero, List.getElem_cons_succ, List.setIfInBounds_toArray, List.set_cons_zero, List.set_cons_succ]
        refine wpAnyH_take (i := 2) (v := .int .i64 (k : Int)) rfl (by kernel_rfl) (by kernel_rfl) (by kernel_rfl) (fun _ _ _ h => h) (Or.inl ⟨by kernel_rfl, fun W hW => by kernel_rfl⟩) (by assumption) ?_
        try simp only [Act.put, List.getElem_toArray, List.getElem_cons_zero, List.getElem_cons_succ, List.setIfInBounds_toArray, List.set_cons_zero, List.set_cons_succ]
        refine wpAnyH_take (i := 3) (v := .pointer (some ⟨b, o, sp⟩)) rfl (by kernel_rfl) (by kernel_rfl) (by kernel_rfl) (fun _ _ _ h => h) (Or.inl ⟨by kernel_rfl, fun W hW => by go_simp⟩) (by assumption) ?_
        try simp only [Act.put, List.getElem_toArray, List.getElem_cons_zero, List.getElem_cons_succ, List.setIfInBounds_toArray, List.set_cons_zero, List.set_cons_succ]
        refine wpAnyH_take (i := 4) (v := .string ⟨x.toArray⟩) rfl (by kernel_rfl) (by kernel_rfl) (by kernel_rfl) (fun _ _ _ h => h) (Or.inl ⟨by kernel_rfl, fun W hW => by have q1 := hW; go_simp⟩) (by assumption) ?_
        try simp only [Act.put, List.getElem_toArray, List.getElem_cons_zero, List.getElem_cons_succ, List.setIfInBounds_toArray, List.set_cons_zero, List.set_cons_succ]
        refine wpAnyH_take (i := 5) (v := .slice (some a) l.length cap) rfl (by kernel_rfl) (by kernel_rfl) (by kernel_rfl) (fun _ _ _ h => h) (Or.inl ⟨by kernel_rfl, fun W hW => by kernel_rfl⟩) (by assumption) ?_
        try simp only [Act.put, List.getElem_toArray, List.getElem_cons_zero, List.getElem_cons_succ, List.setIfInBounds_toArray, List.set_cons_zero, List.set_cons_succ]
        refine wpAnyH_take (i := 6) (v := .int .i64 (k : Int)) rfl (by kernel_rfl) (by kernel_rfl) (by kernel_rfl) (fun _ _ _ h => h) (Or.inl ⟨by kernel_rfl, fun W hW => by kernel_rfl⟩) (by assumption) ?_
        try simp only [Act.put, List.getElem_toArray, List.getElem_cons_zero, List.getElem_cons_succ, List.setIfInBounds_toArray, List.set_cons_zero, List.set_cons_succ]
        refine wpAnyH_take (i := 7) (v := .pointer (some ⟨b, o, sp⟩)) rfl (by kernel_rfl) (by kernel_rfl) (by kernel_rfl) (fun _ _ _ h => h) (Or.inl ⟨by kernel_rfl, fun W hW => by go_simp⟩) (by assumption) ?_
        try simp only [Act.put, List.getElem_toArray, List.getElem_cons_zero, List.getElem_cons_succ, List.setIfInBounds_toArray, List.set_cons_zero, List.set_cons_succ]
        refine wpAnyH_take (i := 8) (v := .string ⟨x.toArray⟩) rfl (by kernel_rfl) (by kernel_rfl) (by kernel_rfl) (fun _ _ _ h => h) (Or.inl ⟨by kernel_rfl, fun W hW => by have q1 := hW; go_simp⟩) (by assumption) ?_
        try simp only [Act.put, List.getElem_toArray, List.getElem_cons_zero, List.getElem_cons_succ, List.setIfInBounds_toArray, List.set_cons_zero, List.set_cons_succ]
        refine wpAnyH_take (i := 9) (v := .int .i64 (x.length : Int)) rfl (by kernel_rfl) (by kernel_rfl) (by kernel_rfl) (fun _ _ _ h => h) (Or.inl ⟨by kernel_rfl, fun W hW => by go_simp⟩) (by assumption) ?_
        try simp only [Act.put, List.getElem_toArray, List.getElem_cons_zero, List.getElem_cons_succ, List.setIfInBounds_toArray, List.set_cons_zero, List.set_cons_succ]
        refine wpAnyH_take (i := 10) (v := .int .i64 (q : Int)) rfl (by kernel_rfl) (by kernel_rfl) (by kernel_rfl) (fun _ _ _ h => h) (Or.inl ⟨by kernel_rfl, fun W hW => by go_simp⟩) (by assumption) ?_
        try simp only [Act.put, List.getElem_toArray, List.getElem_cons_zero, List.getElem_cons_succ, List.setIfInBounds_toArray, List.set_cons_zero, List.set_cons_succ]
        refine wpAnyH_take (i := 11) (v := .string ⟨(cut80 x).toArray⟩) rfl (by kernel_rfl) (by kernel_rfl) (by kernel_rfl) (fun _ _ _ h => h) (Or.inl ⟨by kernel_rfl, fun W hW => by go_simp⟩) (by assumption) ?_
        try simp only [Act.put, List.getElem_toArray, List.getElem_cons_zero, List.getElem_cons_succ, List.setIfInBounds_toArray, List.set_cons_zero, List.set_cons_succ]
        refine wpAnyH_ready (rs := [12]) (by kernel_rfl) (by simp) ?_
        refine AllReadyH.cons rfl (fun K hK => ?_) AllReadyH.nil
        go_simp
        refine hK.out _ _ (((below_new _ _).cell (p := ⟨b, o, sp⟩) hbz8).trans hS) (fun _ => ?_)
        clear K hK
        try simp only [Act.put, List.getElem_toArray, List.getElem_cons_zero, List.getElem_cons_succ, List.setIfInBounds_toArray, List.set_cons_zero, List.set_cons_succ]
        refine wpAnyH_ready (rs := [13]) (by kernel_rfl) (by simp) ?_
        refine AllReadyH.cons rfl (fun K hK => ?_) AllReadyH.nil
        rw [if_pos (by kernel_rfl)]
        refine wp_append1 (.tmp 16) (.tmp 28) 35 rfl w.heap.size 9 i0 (.string ⟨#[]⟩) 1 16 Tryz.underlying35 Hi.out Hz0.out Hz1.out Hz2.out (by rfl) (by decide) _ _ fl Hown.out rfl [.string ⟨(cut80 x).toArray⟩] rfl rfl rfl (by simp [Value.oneCell']) (by unfold maxLen; omega) (by omega) HB8.out.size ?_
        intro v2 w2 own2 g2 at2
        have Hown2 := Lib.hid own2; have Hg2 := Lib.hid g2
        replace hS := g2.cell (a := ⟨b, o, sp⟩) hS (fun e => by have := (Hown.out.lt b e.symm).1; omega)
        clear own2 g2 at2
        refine hK.out _ _ hS (fun _ => ?_)
        clear K hK
        try simp only [Act.put, List.getElem_toArray, List.getElem_cons_zero, List.getElem_cons_succ, List.setIfInBounds_toArray, List.set_cons_zero, List.set_cons_succ]
        refine wpAnyH_take (i := 14) (v := v2) rfl (by kernel_rfl) (by kernel_rfl) (by kernel_rfl) (fun _ _ _ h => h) (Or.inl ⟨by kernel_rfl, fun W hW => by kernel_rfl⟩) (by assumption) ?_
        try simp only [Act.put, List.getElem_toArray, List.getElem_cons_zero, List.getElem_cons_succ, List.setIfInBounds_toArray, List.set_cons_zero, List.set_cons_succ]
        refine wpAnyH_done (by kernel_rfl) ?_ _
        have HB9 := Lib.hid (HB8.out.grown Hg2.out HB8.out.size (fun q e => (Hown.out.lt q e).1))
        have hkl := Hkl.out
        clear hS hlt' hltn' m1 m2 m3 m4 hadd
        go_wp2_with fail
        go_roundw
        case rel => exact ⟨k + 1, by have := Hlt.out; omega, by have := Hltn.out; omega, by go_num, by rw [Htk.out]; exact OwnL.more Hrep.out rfl Hown2.out, HB9.out⟩
        case measure => have := Hlt.out; simp [intOf]; omega
      · have hlt' : (k : Int) < (l.length : Int) := by omega
        have hltn' : ¬ (k : Int) < 10 := by omega
        have hkn2 : k = 10 := by omega
        subst hkn2
        clear hltn
        go_wp2_with fail
        go_ret
        refine ⟨_, rfl, ?_, Hb.out⟩
        have h := HO.out
        first | exact h | (rw [List.map_take] at h; exact h)
    · have hlt' : ¬ (k : Int) < (l.length : Int) := by omega
      have htk : l.take 10 = l.take k := by rw [List.take_of_length_le (by omega), List.take_of_length_le (by omega)]
      have Htk := Lib.hid htk
      clear htk
      go_wp2_with fail
      go_ret
      refine ⟨_, rfl, ?_, Hb.out⟩
      have h := HO.out
      rw [← Htk.out] at h
      first | exact h | (rw [List.map_take] at h; exact h)
end
section
set_option maxRecDepth 100000
open Go.ChangeShapes Go.WideShapes Go.RowKit
section
variable {H : Type} {enc : TypeId × Value → H} {w : World} {n : Nat}
theorem str1_open {cs : List Value} {y : DataW H × List MemPlace} (h : DataW.trod enc Tryz.prog w 0 (fun _ => true) true n 9 cs = some y) : ∃ x : List UInt8, IStr x cs := by
  obtain ⟨s0, e0, _, z0⟩ := DataW.trod_string Tryz.underlying9 h
  obtain ⟨l, rfl, hl⟩ : ∃ l : List UInt8, s0 = ⟨l.toArray⟩ ∧ l.length = s0.size := ⟨s0.data.toList, by rw [Array.toArray_toList], by rw [Array.length_toList]; rfl⟩
  exact ⟨l, e0, by rw [hl]; exact z0⟩
theorem ostrs_open {base : Nat} {r : Reach} {v : Value} {d : DataW H} {ps : List MemPlace} (hv : Value.okWide Tryz.prog w r base 35 v) (h : DataW.Trod enc Tryz.prog w 0 (fun _ => true) true 35 v d ps) :
    ∃ (p : Option Addr) (cap : Nat) (l : List (List UInt8)), v = .slice p l.length cap ∧ OSl 1 IStr w p l ∧ l.length ≤ maxLen := by
  obtain ⟨a0, len0, cap0, rfl⟩ := okWide_slice Tryz.underlying35 hv
  obtain ⟨fuel, hf⟩ := h
  obtain ⟨p, l, cap, e, hl, hO⟩ := slice_open (R := IStr) Tryz.underlying35 (show Tryz.prog.cellsOf 9 = 1 by kernel_rfl) (by decide) (fun m cs y h => str1_open h) (c := .slice a0 len0 cap0) hf
  exact ⟨p, cap, l, e, hO, hl⟩
end
end
section
open Go.RowKit

set_option maxRecDepth 100000 in
set_option maxHeartbeats 400000 in
theorem ref01_digits (f : Nat) : ∀ (n : Nat) (w : World), n < 10 ^ f → 0 < f → f ≤ 8 →
    Calls Tryz.prog 18 #[.int .i64 (n : Int)] w fun e w' => e = .returned (.string ⟨(Cnt.decF f n).toArray⟩) ∧ Below w.heap.size w w' := by
  induction f with
  | zero => intro n w _ h; omega
  | succ f ih =>
    intro n w hn _ hf
    have hn8 : n < 100000000 := Nat.lt_of_lt_of_le hn (Nat.pow_le_pow_right (by omega) hf (n := 10))
    have Hn := Lib.hid hn; have IH := Lib.hid ih; clear hn ih
    have h48 : IntKind.u8.wrap (48 + (n : Int) % 10) = 48 + (n : Int) % 10 := IntWalk.u8_in _ (by omega)
    have hcv := fun (W : World) (x : Int) => run_conv_one (P := Tryz.prog) 76 9 5 Tryz.underlying76 Tryz.underlying5 Tryz.underlying9 W x
    have hu : UInt8.ofNat (48 + (n : Int) % 10).toNat = UInt8.ofNat (48 + n % 10) := by congr 1
    have hd : Cnt.decF (f + 1) n = if n < 10 then [UInt8.ofNat (48 + n)] else Cnt.decF f (n / 10) ++ [UInt8.ofNat (48 + n % 10)] := rfl
    have Hd := Lib.hid hd; have Hu := Lib.hid hu; clear hd hu
    by_cases h10 : n < 10
    · go_enter Tryz.func18, Tryz.ntmps18
      go_wp2_with fail
      go_ret
      refine ⟨ret_str ?_, (Below.refl _ _).alloc (Nat.le_refl _) _⟩
      rw [Hd.out, if_pos h10, Nat.mod_eq_of_lt h10]
    · have hdl := Cnt.decF_length f (n / 10)
      have h10' : (10 : Int) ≤ (n : Int) := by omega
      go_enter Tryz.func18, Tryz.ntmps18
      go_wp2_with (go_at_call 18; refine (IH.out (n / 10) _ (by have := Hn.out; rw [Nat.pow_succ] at this; omega) (by
        rcases Nat.eq_zero_or_pos f with h0 | h0
        · subst h0; have := Hn.out; simp at this; omega
        · exact h0) (by omega)).mono ?_; rintro e w2 ⟨rfl, b2⟩)
      go_ret
      refine ⟨?_, ?_⟩
      · rw [Hd.out, if_neg h10]
        refine congrArg (fun x => Ending.returned (Value.string x)) ((append_data _ [48 + UInt8.ofNat (n % 10)]).trans ?_)
        rw [show UInt8.ofNat (48 + n % 10) = 48 + UInt8.ofNat (n % 10) by rw [UInt8.ofNat_add]; rfl]
      · exact bseq ((Below.refl _ _).alloc (Nat.le_refl _) _) b2

theorem lettered_len : ∀ n : Nat, (Cnt.lettered n).length ≤ n := by
  have h : ∀ f n : Nat, (Cnt.letGo f n).length ≤ f := by
    intro f
    induction f with
    | zero => intro n; simp [Cnt.letGo]
    | succ f ih => intro n; rw [Cnt.letGo]; split <;> simp [ih]
  exact fun n => h n n

end
end Go.Proofs.YtanbcokkfbidbaaGreatDoor
