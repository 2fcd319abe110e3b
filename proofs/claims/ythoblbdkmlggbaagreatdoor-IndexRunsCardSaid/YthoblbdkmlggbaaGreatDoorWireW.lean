/- The walks of package wire (layer 3). -/
import Derived.Test.YthoblbdkmlggbaaGreatDoorAsErr
import Derived.Test.YthoblbdkmlggbaaGreatDoorSidQ
import Derived.Test.YthoblbdkmlggbaaGreatDoorKC
import Derived.OwnWalk
set_option linter.unusedSimpArgs false
set_option linter.unusedVariables false
namespace Go.Proofs.YthoblbdkmlggbaaGreatDoor
open Go.RowKit

/-- what the package-level variables hold that this chapter leans on -/
structure Laid10 (w : World) : Prop where
  cnt : Laid01 w
  err : w.cell? ⟨2, 0, none⟩ = some (.iface 204 (.agg #[asErr.hd 105]))
theorem Laid10.below {w w' : World} (h : Laid10 w) (hb : Below w.heap.size w w') : Laid10 w' :=
  ⟨h.cnt.below hb, (hb.cell (World.block_lt_of_cell? w _ h.err)).trans h.err⟩

theorem itoa_len (n : Nat) (h : n ≤ 999999) : (Lib.itoa (n : Int)).length ≤ 6 := by rw [Cnt.itoa_dec n h]; exact Cnt.decF_length 6 n

set_option maxRecDepth 100000 in
set_option maxHeartbeats 800000 in
theorem wire_put (t : List UInt8) (w : World) (hL : Laid01 w) (ht : t.length ≤ 999999) :
    Calls Tryz.prog 19 #[.string ⟨t.toArray⟩] w fun e w' => e = .returned (.string ⟨(Sd.put t).toArray⟩) ∧ Below w.heap.size w w' := by
  have hit := itoa_len t.length ht
  obtain ⟨d, hd⟩ : ∃ d, Lib.itoa (t.length : Int) = d := ⟨_, rfl⟩
  have hp : Sd.put t = d ++ [58] ++ t ++ [44] := by unfold Sd.put; rw [hd]
  rw [hd] at hit
  have Hd := Lib.hid hd; have Hp := Lib.hid hp
  clear hd hp
  have h1 : ¬ 9223372036854775807 < d.length + 1 := by omega
  have h2 : ¬ 9223372036854775807 < d.length + 1 + t.length := by omega
  have h3 : ¬ 9223372036854775807 < d.length + 1 + t.length + 1 := by omega
  go_enter Tryz.func19, Tryz.ntmps19
  go_wp2_with (go_at_call 40; refine (std_itoa _ _ hL (by omega) (by omega)).mono ?_; rw [Hd.out]; rintro e w1 ⟨rfl, hb⟩; have Hb := Lib.hid hb; clear hb)
  go_ret
  refine ⟨?_, Hb.out⟩
  rw [Hp.out]
  have g1 : ∀ l : List UInt8, (⟨l.toArray⟩ : ByteArray) ++ ⟨#[58]⟩ = ⟨(l ++ [58]).toArray⟩ := fun l => append_data l [58]
  have g2 : ∀ l : List UInt8, (⟨l.toArray⟩ : ByteArray) ++ ⟨#[44]⟩ = ⟨(l ++ [44]).toArray⟩ := fun l => append_data l [44]
  rw [g1, append_data (d ++ [58]) t, g2]
  rfl

/-- an error that wire makes -/
def WErr (v : Value) (w : World) (B : Nat) : Prop := ∃ (g : Nat) (e : Int), v = .iface 141 (.pointer (some ⟨g, 0, none⟩)) ∧ w.cell? ⟨g, 1, none⟩ = some (.int .i64 e) ∧ 1 ≤ e ∧ e ≤ 100 ∧ B ≤ g
theorem WErr.below {v : Value} {w w' : World} {B : Nat} (h : WErr v w B) (hb : Below w.heap.size w w') : WErr v w' B := by
  obtain ⟨g, e, h1, h2, h3⟩ := h
  exact ⟨g, e, h1, (hb.cell (World.block_lt_of_cell? w _ h2)).trans h2, h3⟩
theorem WErr.mono {v : Value} {w : World} {B B' : Nat} (h : WErr v w B') (hb : B ≤ B') : WErr v w B := by
  obtain ⟨g, e, h1, h2, h3, h4, h5⟩ := h
  exact ⟨g, e, h1, h2, h3, h4, Nat.le_trans hb h5⟩
theorem WErr.made (w : World) (a : Value) (e : Int) (h1 : 1 ≤ e) (h2 : e ≤ 100) : WErr (.iface 141 (.pointer (some ⟨w.heap.size, 0, none⟩))) (w.alloc (.cells #[a, .int .i64 e] 143)) w.heap.size :=
  ⟨_, e, rfl, by rw [cell_of_row _ _ _ _ _ _ (heap_alloc_new w _)]; rfl, h1, h2, Nat.le_refl _⟩

def LenPost (s : List UInt8) (at_ : Nat) (w : World) (e : Ending) (w' : World) : Prop :=
  Below w.heap.size w w' ∧
  match Sd.lenGo true 0 (s.drop at_) with
  | some (n, r) => ∃ k : Nat, at_ < k ∧ k ≤ s.length ∧ r = s.drop k ∧ n ≤ 999999 ∧ e = .returned (.tuple #[.int .i64 (n : Int), .int .i64 (k : Int), .nilIface])
  | none => ∃ v, e = .returned (.tuple #[.int .i64 0, .int .i64 0, v]) ∧ WErr v w' w.heap.size

set_option maxRecDepth 100000 in
set_option maxHeartbeats 3200000 in
theorem wire_length (s : List UInt8) (a : Nat) (w : World) (hs : s.length ≤ 1000000000) (ha : a ≤ s.length) :
    Calls Tryz.prog 107 #[.string ⟨s.toArray⟩, .int .i64 (a : Int)] w (LenPost s a w) := by
  obtain ⟨o, ho⟩ : ∃ o, Sd.lenGo true 0 (s.drop a) = o := ⟨_, rfl⟩
  have Ho := Lib.hid ho
  clear ho
  go_enter Tryz.func107, Tryz.ntmps107
  go_wp2_with fail
  go_loopw [7, 8] (fun nv iv wr => ∃ (k n : Nat), a ≤ k ∧ k ≤ s.length ∧ n ≤ 999999 ∧ nv = .int .i64 (n : Int) ∧ iv = .int .i64 (k : Int) ∧ Sd.lenGo (decide (k = a)) n (s.drop k) = o ∧ (k = a → n = 0) ∧ wr = w) (fun _ iv _ => s.length - (intOf iv).toNat)
  case atStart => exact ⟨a, 0, Nat.le_refl _, ha, by omega, rfl, rfl, by rw [decide_eq_true rfl]; exact Ho.out, fun _ => rfl, rfl⟩
  case round =>
    obtain ⟨k, n, hak, hk, hn, rfl, rfl, hg, hkn, rfl⟩ := hrel
    have Hg := Lib.hid hg; have Hkn := Lib.hid hkn
    clear hg hkn
    by_cases hlt : k < s.length
    · obtain ⟨x, hx⟩ : ∃ x, s[k]? = some x := ⟨_, List.getElem?_eq_getElem hlt⟩
      have hby := byte_at s k x hx
      have hdrop : s.drop k = x :: s.drop (k + 1) := by
        obtain ⟨h1, h2⟩ := List.getElem?_eq_some_iff.1 hx
        rw [List.drop_eq_getElem_cons h1, h2]
      have hgo := Hg.out
      rw [hdrop, Sd.lenGo] at hgo
      have Hgo := Lib.hid hgo
      clear hgo hdrop hx
      have hlt' : (k : Int) < (s.length : Int) := by omega
      have hkl : (k : Int) + 1 ≤ 9223372036854775807 := by omega
      have hxl := x.toNat_lt
      by_cases h1 : x = 58 ∧ k ≠ a
      · obtain ⟨rfl, hne⟩ := h1
        have hgt : (a : Int) < (k : Int) := by omega
        have hr := Hgo.out
        rw [if_pos ⟨rfl, by simp [hne]⟩] at hr
        have Hr := Lib.hid hr
        clear hr Hgo
        go_wp2_with fail
        go_ret3
        refine ⟨Below.refl _ _, ?_⟩
        rw [Ho.out, ← Hr.out]
        exact ⟨k + 1, by omega, by omega, rfl, hn, rfl⟩
      · have hr := Hgo.out
        have hc0 : ¬ (x = 58 ∧ decide (k = a) = false) := by
          rintro ⟨h2, h3⟩
          exact h1 ⟨h2, by simpa using h3⟩
        rw [if_neg hc0] at hr
        clear Hgo hc0
        by_cases h2 : x.toNat < 48 ∨ 57 < x.toNat ∨ (decide (k = a) = false ∧ n = 0)
        · rw [if_pos h2] at hr
          have Hr := Lib.hid hr
          clear hr
          obtain ⟨m, hm⟩ : ∃ m, x.toNat = m := ⟨_, rfl⟩
          have hm58 : m = 58 → k = a := by
            intro h
            by_cases hka : k = a
            · exact hka
            · exact absurd ⟨UInt8.toNat_inj.1 (by rw [hm, h]; rfl), hka⟩ h1
          rw [hm] at h2 hxl
          clear h1
          by_cases hm1 : m = 58
          · have hka := hm58 hm1
            subst hka
            subst hm1
            clear h2 hm58
            have hgt : ¬ (k : Int) < (k : Int) := by omega
            go_wp2_with fail
            go_ret3
            refine ⟨below_new _ _, ?_⟩
            rw [Ho.out, ← Hr.out]
            exact ⟨_, rfl, WErr.made _ _ 5 (by omega) (by omega)⟩
          · have e58 : ((m : Int) == 58) = false := by rw [beq_eq_false_iff_ne]; omega
            clear hm58
            by_cases h48 : m < 48
            · have g1 : (m : Int) < 48 := by omega
              clear h2
              go_wp2_with fail
              go_ret3
              refine ⟨below_new _ _, ?_⟩
              rw [Ho.out, ← Hr.out]
              exact ⟨_, rfl, WErr.made _ _ 5 (by omega) (by omega)⟩
            · have g1 : ¬ (m : Int) < 48 := by omega
              by_cases h57 : 57 < m
              · have g2 : (57 : Int) < (m : Int) := by omega
                clear h2
                go_wp2_with fail
                go_ret3
                refine ⟨below_new _ _, ?_⟩
                rw [Ho.out, ← Hr.out]
                exact ⟨_, rfl, WErr.made _ _ 5 (by omega) (by omega)⟩
              · have g2 : ¬ (57 : Int) < (m : Int) := by omega
                have h3 : decide (k = a) = false ∧ n = 0 := by
                  rcases h2 with h | h | h
                  · omega
                  · omega
                  · exact h
                obtain ⟨h3, rfl⟩ := h3
                have h3' : k ≠ a := by simpa using h3
                have g3 : (a : Int) < (k : Int) := by omega
                clear h2 h3
                go_wp2_with fail
                go_ret3
                refine ⟨below_new _ _, ?_⟩
                rw [Ho.out, ← Hr.out]
                exact ⟨_, rfl, WErr.made _ _ 5 (by omega) (by omega)⟩
        · rw [if_neg h2] at hr
          obtain ⟨m, hm⟩ : ∃ m, x.toNat = m := ⟨_, rfl⟩
          rw [hm] at h2 hxl hr
          have hm48 : 48 ≤ m ∧ m ≤ 57 := by omega
          have h0 : decide (k = a) = false → n ≠ 0 := fun h h' => h2 (Or.inr (Or.inr ⟨h, h'⟩))
          have e58 : ((m : Int) == 58) = false := by rw [beq_eq_false_iff_ne]; omega
          have g1 : ¬ (m : Int) < 48 := by omega
          have g2 : ¬ (57 : Int) < (m : Int) := by omega
          have hw1 : IntKind.i64.wrap ((n : Int) * 10) = (n : Int) * 10 := IntWalk.i64_in _ (by omega)
          have hw2 : IntKind.u8.wrap ((m : Int) - 48) = (m : Int) - 48 := IntWalk.u8_in _ (by omega)
          have hw4 : IntKind.i64.wrap ((m : Int) - 48) = (m : Int) - 48 := IntWalk.i64_in _ (by omega)
          clear h1 h2
          by_cases hka : k = a
          · subst hka
            have g3 : ¬ (k : Int) < (k : Int) := by omega
            clear h0
            have hw3 : IntKind.i64.wrap ((n : Int) * 10 + ((m : Int) - 48)) = (n : Int) * 10 + ((m : Int) - 48) := IntWalk.i64_in _ (by omega)
            by_cases hbig : 999999 < n * 10 + (m - 48)
            · rw [if_pos hbig] at hr
              have Hr := Lib.hid hr
              clear hr
              have gb : (999999 : Int) < (n : Int) * 10 + ((m : Int) - 48) := by omega
              clear hbig
              go_wp2_with fail
              go_ret3
              refine ⟨below_new _ _, ?_⟩
              rw [Ho.out, ← Hr.out]
              exact ⟨_, rfl, WErr.made _ _ 3 (by omega) (by omega)⟩
            · rw [if_neg hbig] at hr
              have Hr := Lib.hid hr
              clear hr
              have gb : ¬ (999999 : Int) < (n : Int) * 10 + ((m : Int) - 48) := by omega
              have Hbig := Lib.hid hbig
              clear hbig
              go_wp2_with fail
              go_roundw
              case rel => exact ⟨k + 1, n * 10 + (m - 48), by omega, by omega, by have := Hbig.out; omega, by congr 1; omega, by go_num, by rw [decide_eq_false (by omega : ¬ k + 1 = k)]; exact Hr.out, by omega, trivial⟩
              case measure => simp [intOf]; omega
          · have g3 : (a : Int) < (k : Int) := by omega
            have g4 : ((n : Int) == 0) = false := by
              have := h0 (by simp [hka])
              rw [beq_eq_false_iff_ne]; omega
            clear h0
            have hw3 : IntKind.i64.wrap ((n : Int) * 10 + ((m : Int) - 48)) = (n : Int) * 10 + ((m : Int) - 48) := IntWalk.i64_in _ (by omega)
            by_cases hbig : 999999 < n * 10 + (m - 48)
            · rw [if_pos hbig] at hr
              have Hr := Lib.hid hr
              clear hr
              have gb : (999999 : Int) < (n : Int) * 10 + ((m : Int) - 48) := by omega
              clear hbig
              go_wp2_with fail
              go_ret3
              refine ⟨below_new _ _, ?_⟩
              rw [Ho.out, ← Hr.out]
              exact ⟨_, rfl, WErr.made _ _ 3 (by omega) (by omega)⟩
            · rw [if_neg hbig] at hr
              have Hr := Lib.hid hr
              clear hr
              have gb : ¬ (999999 : Int) < (n : Int) * 10 + ((m : Int) - 48) := by omega
              have Hbig := Lib.hid hbig
              clear hbig
              go_wp2_with fail
              go_roundw
              case rel => exact ⟨k + 1, n * 10 + (m - 48), by omega, by omega, by have := Hbig.out; omega, by congr 1; omega, by go_num, by rw [decide_eq_false (by omega : ¬ k + 1 = a)]; exact Hr.out, by omega, trivial⟩
              case measure => simp [intOf]; omega
    · have hlt' : ¬ (k : Int) < (s.length : Int) := by omega
      have hnil : s.drop k = [] := List.drop_of_length_le (by omega)
      have hr := Hg.out
      rw [hnil, Sd.lenGo] at hr
      have Hr := Lib.hid hr
      clear hr hnil
      go_wp2_with fail
      go_ret3
      refine ⟨below_new _ _, ?_⟩
      rw [Ho.out, ← Hr.out]
      exact ⟨_, rfl, WErr.made _ _ 6 (by omega) (by omega)⟩

/-- what 'get' and 'Get' tell: the text at a place, and the place behind it -/
def GetPost (s : List UInt8) (at_ : Nat) (w : World) (e : Ending) (w' : World) : Prop :=
  Below w.heap.size w w' ∧
  match Sd.get (s.drop at_) with
  | some (t, r) => ∃ k : Nat, at_ < k ∧ k ≤ s.length ∧ r = s.drop k ∧ t.length ≤ s.length ∧ e = .returned (.tuple #[.string ⟨t.toArray⟩, .int .i64 (k : Int), .nilIface])
  | none => ∃ v, e = .returned (.tuple #[.string ⟨#[]⟩, .int .i64 0, v]) ∧ WErr v w' w.heap.size
set_option maxRecDepth 100000 in
set_option maxHeartbeats 3200000 in
theorem wire_get0 (s : List UInt8) (a : Nat) (w : World) (hs : s.length ≤ 1000000000) (ha : a ≤ s.length) :
    Calls Tryz.prog 70 #[.string ⟨s.toArray⟩, .int .i64 (a : Int), .int .i64 999999] w (GetPost s a w) := by
  have hg : Sd.get (s.drop a) = match Sd.lenGo true 0 (s.drop a) with | none => none | some (n, r) => if r[n]? = some 44 then some (r.take n, r.drop (n + 1)) else none := rfl
  cases hlg : Sd.lenGo true 0 (s.drop a) with
  | none =>
    rw [hlg] at hg
    have Hg := Lib.hid hg; have Hlg := Lib.hid hlg
    clear hg hlg
    have h0 : ¬ (a : Int) < 0 := by omega
    have h1 : ¬ (s.length : Int) < (a : Int) := by omega
    go_enter Tryz.func70, Tryz.ntmps70
    go_upto_region 4 with (go_at_call 107; refine (wire_length s a _ hs ha).mono ?_; rintro e w1 ⟨hb, hm⟩; rw [Hlg.out] at hm; obtain ⟨v, rfl, hE⟩ := hm; have Hb := Lib.hid hb; have HE := Lib.hid hE; obtain ⟨g, er, rfl, _⟩ := hE; clear hb)
    go_wp2_with fail
    go_ret3
    refine ⟨Hb.out, ?_⟩
    rw [Hg.out]
    exact ⟨_, rfl, HE.out⟩
  | some o =>
    obtain ⟨n, r⟩ := o
    rw [hlg] at hg
    simp only at hg
    have Hg := Lib.hid hg; have Hlg := Lib.hid hlg
    clear hg hlg
    have h0 : ¬ (a : Int) < 0 := by omega
    have h1 : ¬ (s.length : Int) < (a : Int) := by omega
    go_enter Tryz.func70, Tryz.ntmps70
    go_upto_region 4 with (go_at_call 107; refine (wire_length s a _ hs ha).mono ?_; rintro e w1 ⟨hb, hm⟩; rw [Hlg.out] at hm; obtain ⟨k, hak, hk, hr, hn, rfl⟩ := hm; have Hb := Lib.hid hb; clear hb)
    obtain ⟨q, hq⟩ : ∃ q, q = k + n := ⟨_, rfl⟩
    have hw1 : IntKind.i64.wrap ((k : Int) + (n : Int)) = (q : Int) := by rw [IntWalk.i64_in _ (by omega)]; omega
    have hw2 : IntKind.i64.wrap ((q : Int) + 1) = (q : Int) + 1 := IntWalk.i64_in _ (by omega)
    have hmx : ¬ (999999 : Int) < (n : Int) := by omega
    subst hr
    have hget : (s.drop k)[n]? = s[q]? := by rw [List.getElem?_drop, hq]
    rw [hget] at Hg
    by_cases hsh : s.length < q + 1
    · have g1 : (s.length : Int) < (q : Int) + 1 := by omega
      have hnone : s[q]? = none := List.getElem?_eq_none (by omega)
      rw [hnone, if_neg (by simp)] at Hg
      clear hnone hget hsh
      go_wp2_with fail
      go_ret3
      refine ⟨Hb.out.alloc Hb.out.size _, ?_⟩
      rw [Hg.out]
      exact ⟨_, rfl, (WErr.made _ _ 6 (by omega) (by omega)).mono Hb.out.size⟩
    · have g1 : ¬ (s.length : Int) < (q : Int) + 1 := by omega
      have g2 : (q : Int) < (s.length : Int) := by omega
      obtain ⟨x, hx⟩ : ∃ x, s[q]? = some x := ⟨_, List.getElem?_eq_getElem (by omega)⟩
      have hby := byte_at s q x hx
      have Hq := Lib.hid hq
      rw [hx] at Hg
      clear hx hget hsh hq
      by_cases hc : x = 44
      · have e1 : ((x.toNat : Int) == 44) = true := by rw [hc]; rfl
        rw [hc, if_pos rfl] at Hg
        have hex : (⟨s.toArray⟩ : ByteArray).extract k q = ⟨((s.drop k).take n).toArray⟩ := by
          rw [extract_any, Hq.out, Nat.add_sub_cancel_left]
        have hkq : (k : Int) ≤ (q : Int) := by have := Hq.out; omega
        have hqs : (q : Int) ≤ (s.length : Int) := by omega
        clear hc
        go_wp2_with fail
        go_ret3
        refine ⟨Hb.out, ?_⟩
        rw [Hg.out]
        exact ⟨q + 1, by have := Hq.out; omega, by omega, by rw [List.drop_drop, Hq.out, Nat.add_assoc], by rw [List.length_take, List.length_drop]; omega, rfl⟩
      · have e1 : ((x.toNat : Int) == 44) = false := by rw [beq_eq_false_iff_ne]; intro h; exact hc (UInt8.toNat_inj.1 (by show x.toNat = 44; omega))
        rw [if_neg (fun h => hc (Option.some.inj h))] at Hg
        clear hc
        go_wp2_with fail
        go_ret3
        refine ⟨Hb.out.alloc Hb.out.size _, ?_⟩
        rw [Hg.out]
        exact ⟨_, rfl, (WErr.made _ _ 5 (by omega) (by omega)).mono Hb.out.size⟩

set_option maxRecDepth 100000 in
set_option maxHeartbeats 1600000 in
theorem wire_number (v : Value) (B : Nat) (w : World) (hL : Laid10 w) (hv : WErr v w B) :
    Calls Tryz.prog 71 #[v] w fun ev w' => (∃ er : Int, ev = .returned (.int .i64 er) ∧ 1 ≤ er ∧ er ≤ 100) ∧ Below w.heap.size w w' := by
  obtain ⟨g, e, rfl, hp, h1, h2, _⟩ := hv
  have hgl : 2 < w.heap.size := World.block_lt_of_cell? w _ hL.err
  have hpl : g < w.heap.size := World.block_lt_of_cell? w _ hp
  have hb1 := below_new w (.cells #[.int .i64 0] 49)
  have hgA := (hb1.cell (p := ⟨2, 0, none⟩) hgl).trans hL.err
  have hpA := (hb1.cell (p := ⟨g, 1, none⟩) hpl).trans hp
  have htA : (w.alloc (.cells #[.int .i64 0] 49)).cell? ⟨w.heap.size, 0, none⟩ = some (.int .i64 0) := by rw [cell_of_row _ _ _ _ _ _ (heap_alloc_new w _)]; rfl
  have hfA : (w.alloc (.cells #[.int .i64 0] 49)).frozen? ⟨w.heap.size, 0, none⟩ = false := by simp
  have HgA := Lib.hid hgA; have HpA := Lib.hid hpA; have HtA := Lib.hid htA; have HfA := Lib.hid hfA; have Hb1 := Lib.hid hb1; have H1 := Lib.hid h1; have H2 := Lib.hid h2
  clear hgA hpA htA hfA hb1 hp hL h1 h2
  go_enter Tryz.func71, Tryz.ntmps71
  go_upto_region 3 with (go_at_call 108; refine (std_as g e 0 ⟨w.heap.size, 0, none⟩ _ HgA.out HpA.out HtA.out HfA.out).mono ?_; rintro ev w9 ⟨rfl, W9, hw9, hb9⟩; have Hw9 := Lib.hid hw9; have Hb9 := Lib.hid hb9; clear hw9 hb9)
  have hc9 : w9.cell? ⟨w.heap.size, 0, none⟩ = some (.int .i64 e) := by
    rw [Hw9.out]
    have := (Hb9.out.cell (p := ⟨w.heap.size, 0, none⟩) (World.block_lt_of_cell? _ _ HtA.out)).trans HtA.out
    exact World.cell?_setCell_same _ _ _ this
  have hb9 : Below w.heap.size w w9 := by
    rw [Hw9.out]
    exact (Hb1.out.trans (Hb9.out.mono Hb1.out.size)).setCell (p := ⟨w.heap.size, 0, none⟩) (Nat.le_refl _) _
  have Hbb := Lib.hid hb9
  clear hb9
  go_wp2_with fail
  go_ret
  exact ⟨⟨e, rfl, H1.out, H2.out⟩, Hbb.out⟩
/-- what 'Get' tells -/
def GetPost2 (s : List UInt8) (at_ : Nat) (w : World) (e : Ending) (w' : World) : Prop :=
  Below w.heap.size w w' ∧
  match Sd.get (s.drop at_) with
  | some (t, r) => ∃ k : Nat, at_ < k ∧ k ≤ s.length ∧ r = s.drop k ∧ t.length ≤ s.length ∧ e = .returned (.tuple #[.string ⟨t.toArray⟩, .int .i64 (k : Int), .int .i64 0])
  | none => ∃ er : Int, 1 ≤ er ∧ er ≤ 100 ∧ e = .returned (.tuple #[.string ⟨#[]⟩, .int .i64 0, .int .i64 er])
set_option maxRecDepth 100000 in
set_option maxHeartbeats 1600000 in
theorem wire_get (s : List UInt8) (a : Nat) (w : World) (hL : Laid10 w) (hs : s.length ≤ 1000000000) (ha : a ≤ s.length) :
    Calls Tryz.prog 46 #[.string ⟨s.toArray⟩, .int .i64 (a : Int), .int .i64 999999] w (GetPost2 s a w) := by
  have HL := Lib.hid hL; clear hL
  cases hg : Sd.get (s.drop a) with
  | none =>
    have Hg := Lib.hid hg; clear hg
    go_enter Tryz.func46, Tryz.ntmps46
    go_upto_region 2 with (go_at_call 70; refine (wire_get0 s a _ hs ha).mono ?_; rintro e w1 ⟨hb, hm⟩; rw [Hg.out] at hm; obtain ⟨v, rfl, hE⟩ := hm; have Hb := Lib.hid hb; have HE := Lib.hid hE; obtain ⟨g, er, rfl, _⟩ := hE; clear hb)
    go_wp2_with (go_at_call 71; refine (wire_number _ _ _ (HL.out.below Hb.out) HE.out).mono ?_; rintro e w2 ⟨⟨er2, rfl, h1, h2⟩, hb2⟩; have Hb2 := Lib.hid (Hb.out.trans (hb2.mono Hb.out.size)); clear hb2)
    go_ret3
    refine ⟨Hb2.out, ?_⟩
    rw [Hg.out]
    exact ⟨er2, h1, h2, rfl⟩
  | some o =>
    obtain ⟨t, r⟩ := o
    have Hg := Lib.hid hg; clear hg
    go_enter Tryz.func46, Tryz.ntmps46
    go_upto_region 2 with (go_at_call 70; refine (wire_get0 s a _ hs ha).mono ?_; rintro e w1 ⟨hb, hm⟩; rw [Hg.out] at hm; obtain ⟨k, hak, hk, hr, ht, rfl⟩ := hm; have Hb := Lib.hid hb; clear hb)
    go_wp2_with fail
    go_ret3
    refine ⟨Hb.out, ?_⟩
    rw [Hg.out]
    exact ⟨k, hak, hk, hr, ht, rfl⟩

def RStr (s : List UInt8) (vs : List Value) : Prop := vs = [.string ⟨s.toArray⟩]
theorem RStr.size (s : List UInt8) (vs : List Value) (h : RStr s vs) : vs.length = 1 := by rw [h]; rfl
theorem str_info : (Tryz.prog.info? 9).map (fun i => (i.zero, i.size, i.bytes)) = some (some (.string ⟨#[]⟩), 1, 16) := by kernel_rfl
/-- what 'All' tells: the texts, or none -/
def AllPost (s : List UInt8) (w : World) (e : Ending) (w' : World) : Prop :=
  Below w.heap.size w w' ∧
  match Sd.all s with
  | some ts => ∃ v, OwnL w.heap.size 9 1 RStr w' v ts ∧ (∀ t ∈ ts, t.length ≤ s.length) ∧ ts.length ≤ s.length ∧ e = .returned (.tuple #[v, .int .i64 0])
  | none => ∃ er : Int, 1 ≤ er ∧ er ≤ 100 ∧ e = .returned (.tuple #[.slice none 0 0, .int .i64 er])
/-- what is read, and what is left -/
theorem all_step (f : Nat) (s : List UInt8) (c : UInt8) (r : List UInt8) (h : s = c :: r) : Sd.allN (f + 1) s = match Sd.get s with | none => none | some (t, q) => (Sd.allN f q).map (t :: ·) := by subst h; rfl
/-- more fuel makes no difference -/
theorem allN_fuel : ∀ (f g : Nat) (l : List UInt8), l.length ≤ f → l.length ≤ g → (∀ l t q, Sd.get l = some (t, q) → q.length < l.length) → Sd.allN f l = Sd.allN g l
  | f, g, [], _, _, _ => by rw [Sd.allN_nil, Sd.allN_nil]
  | 0, g, c :: r, h, _, _ => by simp at h
  | f + 1, 0, c :: r, _, h, _ => by simp at h
  | f + 1, g + 1, c :: r, h1, h2, hq => by
    rw [Sd.allN, Sd.allN]
    cases h : Sd.get (c :: r) with
    | none => rfl
    | some o =>
      obtain ⟨t, q⟩ := o
      have := hq _ _ _ h
      simp only
      rw [allN_fuel f g q (by simp at this h1; omega) (by simp at this h2; omega) hq]
theorem lenGo_less : ∀ (l : List UInt8) (b : Bool) (n m : Nat) (r : List UInt8), Sd.lenGo b n l = some (m, r) → r.length < l.length
  | [], _, _, _, _, h => by cases h
  | c :: l, b, n, m, r, h => by
    rw [Sd.lenGo] at h
    split at h
    · injection h with h
      injection h with _ h
      rw [← h]; simp
    · split at h
      · cases h
      · split at h
        · cases h
        · have := lenGo_less l _ _ _ _ h
          simp; omega
theorem get_less (l t q : List UInt8) (h : Sd.get l = some (t, q)) : q.length < l.length := by
  unfold Sd.get at h
  cases h1 : Sd.lenGo true 0 l with
  | none => rw [h1] at h; cases h
  | some o =>
    obtain ⟨n, r⟩ := o
    rw [h1] at h
    simp only at h
    split at h
    · have := lenGo_less _ _ _ _ _ h1
      injection h with h
      injection h with _ h
      rw [← h, List.length_drop]; omega
    · cases h
theorem all_eq (s t r : List UInt8) (h : Sd.get s = some (t, r)) : Sd.all s = (Sd.all r).map (t :: ·) := by
  cases s with
  | nil => cases h
  | cons c q =>
    have hl := get_less _ _ _ h
    unfold Sd.all
    show Sd.allN (q.length + 1) (c :: q) = _
    rw [Sd.allN, h]
    simp only
    rw [allN_fuel q.length r.length r (by simp at hl; omega) (Nat.le_refl _) get_less]
theorem all_bad (s : List UInt8) (hne : s ≠ []) (h : Sd.get s = none) : Sd.all s = none := by
  cases s with
  | nil => exact absurd rfl hne
  | cons c q =>
    unfold Sd.all
    show Sd.allN (q.length + 1) (c :: q) = _
    rw [Sd.allN, h]
theorem all_nil : Sd.all [] = some [] := rfl

set_option maxRecDepth 100000 in
set_option maxHeartbeats 3200000 in
theorem wire_all (s : List UInt8) (w : World) (hL : Laid10 w) (hs : s.length ≤ 1000000) :
    Calls Tryz.prog 21 #[.string ⟨s.toArray⟩] w (AllPost s w) := by
  have HL := Lib.hid hL; clear hL
  obtain ⟨i0, hi, hz0, hz1, hz2⟩ := info_parts str_info
  have Hi := Lib.hid hi; have Hz0 := Lib.hid hz0; have Hz1 := Lib.hid hz1; have Hz2 := Lib.hid hz2; clear hi hz0 hz1 hz2
  go_enter Tryz.func21, Tryz.ntmps21
  go_wp2_with fail
  go_loopw [4, 5] (fun vo iv wr => ∃ (k : Nat) (out : List (List UInt8)), k ≤ s.length ∧ iv = .int .i64 (k : Int) ∧ OwnL w.heap.size 9 1 RStr wr vo out ∧ Sd.all s = (Sd.all (s.drop k)).map (out ++ ·) ∧ (∀ t ∈ out, t.length ≤ s.length) ∧ out.length ≤ k ∧ Below w.heap.size w wr) (fun _ iv _ => s.length - (intOf iv).toNat)
  case atStart => exact ⟨0, [], Nat.zero_le _, rfl, OwnL.nil _ _ _ _ _, by simp, by simp, Nat.le_refl _, Below.refl _ _⟩
  case round =>
    obtain ⟨k, out, hk, rfl, hO, hall, hsm, hol, hb⟩ := hrel
    have HO := Lib.hid hO; have Hall := Lib.hid hall; have Hsm := Lib.hid hsm; have Hb := Lib.hid hb
    clear hO hall hsm hb
    by_cases hlt : k < s.length
    · have hlt' : (k : Int) < (s.length : Int) := by omega
      have hne : s.drop k ≠ [] := by intro h; have := congrArg List.length h; rw [List.length_drop] at this; simp at this; omega
      cases hg : Sd.get (s.drop k) with
      | none =>
        have ha := all_bad _ hne hg
        have Hr := Lib.hid (show Sd.all s = none by rw [Hall.out, ha]; rfl)
        have Hg := Lib.hid hg
        clear hg hne ha
        go_wp2_with (go_at_call 46; refine (wire_get s k _ (HL.out.below Hb.out) (by omega) hk).mono ?_; rintro e w1 ⟨hb, hm⟩; rw [Hg.out] at hm; obtain ⟨er, h1, h2, rfl⟩ := hm; have Hb1 := Lib.hid (Hb.out.trans (hb.mono Hb.out.size)); have her : (er != 0) = true := (by simp; omega); clear hb)
        go_ret2
        refine ⟨Hb1.out, ?_⟩
        rw [Hr.out]
        exact ⟨er, h1, h2, rfl⟩
      | some o =>
        obtain ⟨t, r⟩ := o
        have ha := all_eq _ _ _ hg
        have Hr := Lib.hid (show Sd.all s = (Sd.all r).map ((out ++ [t]) ++ ·) by rw [Hall.out, ha, Option.map_map]; congr 1; funext l; simp)
        have Hg := Lib.hid hg
        clear hg hne ha
        obtain ⟨fl, hown, hrep⟩ := HO.out
        have Hown := Lib.hid hown; have Hrep := Lib.hid hrep
        clear hown hrep
        have hout : out.length ≤ 1000000 := by omega
        go_wp2_with (first
          | (go_at_call 46; refine (wire_get s k _ (HL.out.below Hb.out) (by omega) hk).mono ?_; rintro e w1 ⟨hb, hm⟩; rw [Hg.out] at hm; obtain ⟨k2, hak, hk2, hr, ht, rfl⟩ := hm; have Hb1 := Lib.hid (Hb.out.trans (hb.mono Hb.out.size)); have Ho1 := Lib.hid (own_below Hown.out hb); clear hb)
          | (at_builtin; go_loud (refine wpList_append1 rfl (.tmp 23) (.tmp 25) 25 rfl w.heap.size 9 i0 (.string ⟨#[]⟩) 1 16 Tryz.underlying25 Hi.out Hz0.out Hz1.out Hz2.out rfl (by decide) _ _ _ Ho1.out rfl [.string ⟨t.toArray⟩] rfl (by simp) rfl (by simp [Value.oneCell']) (by unfold maxLen; omega) (by omega) Hb1.out.size ?_); intro v2 w2 own2 g2 at2))
        go_roundw
        case rel =>
          refine ⟨k2, out ++ [t], hk2, rfl, OwnL.more Hrep.out rfl own2, by rw [← hr]; exact Hr.out, ?_, by rw [List.length_append, List.length_singleton]; omega, Hb1.out.grown g2 Hb1.out.size (fun q e => (Ho1.out.lt q e).1)⟩
          intro u hu
          rcases List.mem_append.1 hu with h | h
          · exact Hsm.out u h
          · rw [List.mem_singleton] at h; rw [h]; exact ht
        case measure => simp [intOf]; omega
    · have hlt' : ¬ (k : Int) < (s.length : Int) := by omega
      have hd : s.drop k = [] := List.drop_of_length_le (by omega)
      have Hr := Lib.hid (show Sd.all s = some out by rw [Hall.out, hd, all_nil]; simp)
      go_wp2_with fail
      go_ret2
      refine ⟨Hb.out, ?_⟩
      rw [Hr.out]
      exact ⟨_, HO.out, Hsm.out, by omega, rfl⟩
end Go.Proofs.YthoblbdkmlggbaaGreatDoor
