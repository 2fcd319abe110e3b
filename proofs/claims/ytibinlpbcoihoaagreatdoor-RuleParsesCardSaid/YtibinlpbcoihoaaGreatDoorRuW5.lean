/- The walk of rule.Right. -/
import Derived.Test.YtibinlpbcoihoaaGreatDoorG19
import Derived.Test.YtibinlpbcoihoaaGreatDoorG03
set_option linter.unusedSimpArgs false
set_option linter.unusedVariables false
namespace Go.Proofs.YtibinlpbcoihoaaGreatDoor
open Go.RowKit
def seenN (seen : List (List UInt8)) (s : List UInt8) : Int := ((seen.count s : Nat) : Int)
theorem IMap.cong {w : World} {b n : Nat} {f f' : List UInt8 → Int} (h : IMap w b n f) (e : ∀ s, f s = f' s) : IMap w b n f' := by
  have : f = f' := funext e
  rwa [← this]
namespace Ru
theorem seen_snoc (seen : List (List UInt8)) (key t : List UInt8) : (if t = key then seenN seen key + 1 else seenN seen t) = seenN (seen ++ [key]) t := by
  unfold seenN
  by_cases h : t = key
  · subst h; simp
  · rw [if_neg h, List.count_append, List.count_eq_zero.2 (show t ∉ [key] by simpa using h)]; rfl
theorem seen_one (seen : List (List UInt8)) (key : List UInt8) (h : key ∉ seen) : seenN (seen ++ [key]) key = 1 := by
  unfold seenN; rw [List.count_append, List.count_eq_zero.2 h]; simp
theorem seen_two (seen : List (List UInt8)) (key : List UInt8) (h : key ∈ seen) : 1 < seenN (seen ++ [key]) key := by
  unfold seenN; rw [List.count_append]; have := List.count_pos_iff.2 h; simp; omega
theorem seen_bound (seen : List (List UInt8)) (key : List UInt8) (h : seen.length ≤ 1000000) : 0 ≤ seenN seen key ∧ seenN seen key ≤ 1000000 := by
  unfold seenN; have := List.count_le_length (a := key) (l := seen); omega
theorem i64_seen (x : Int) (h : 0 ≤ x ∧ x ≤ 1000000) : IntKind.i64.wrap (x + 1) = x + 1 := IntWalk.i64_in _ (by omega)
theorem w64_seen (x : Int) (h : 0 ≤ x ∧ x ≤ 1000000) : wrap64 (x + 1) = x + 1 := by unfold wrap64; omega
theorem c64_seen (x : Int) (h : 0 ≤ x ∧ x ≤ 1000000) : -9223372036854775808 ≤ x + 1 ∧ x + 1 ≤ 9223372036854775807 := by omega
theorem writes_each (x : Rl) (m : Nat) (ha : x.a.length ≤ m) (hb : x.b.length ≤ m) : ∀ y ∈ writes x, y.length ≤ m + 4 := by
  intro y hy
  unfold writes at hy
  by_cases h : x.kind = 4
  · rw [if_pos h, List.mem_singleton] at hy; rw [hy]; omega
  · rw [if_neg h] at hy
    obtain ⟨e, he, rfl⟩ := List.mem_map.1 hy
    have : e.length = 4 := by
      unfold ends at he
      split at he
      · revert he; exact (by decide : ∀ e ∈ endsMark, e.length = 4) e
      · split at he
        · revert he; exact (by decide : ∀ e ∈ endsBib, e.length = 4) e
        · split at he
          · revert he; exact (by decide : ∀ e ∈ endsInd, e.length = 4) e
          · simp at he
    rw [List.length_append]; omega
/-- a text that stands twice among the first -/
theorem right_twice (l : List Rl) (k j : Nat) (x : Rl) (y : List UInt8) (hx : l[k]? = some x) (hy : (writes x)[j]? = some y) (h : y ∈ allW (l.take k) ++ (writes x).take j) : right l = false := by
  apply right_dup
  have e : allW l = (allW (l.take k) ++ (writes x).take j) ++ y :: ((writes x).drop (j + 1) ++ allW (l.drop (k + 1))) := by
    obtain ⟨h1, h2⟩ := List.getElem?_eq_some_iff.1 hx
    obtain ⟨j1, j2⟩ := List.getElem?_eq_some_iff.1 hy
    have e1 : allW l = allW (l.take k) ++ (writes x ++ allW (l.drop (k + 1))) := by
      conv => lhs; rw [← List.take_append_drop k l, List.drop_eq_getElem_cons h1, h2]
      unfold allW; rw [List.flatMap_append, List.flatMap_cons]
    have e2 : writes x = (writes x).take j ++ y :: (writes x).drop (j + 1) := by
      conv => lhs; rw [← List.take_append_drop j (writes x), List.drop_eq_getElem_cons j1, j2]
    rw [e1]
    conv => lhs; rw [e2]
    simp
  rw [e]
  intro hn
  rw [List.nodup_append] at hn
  exact hn.2.2 y h y (by simp) rfl
end Ru
set_option maxRecDepth 100000 in
set_option maxHeartbeats 3200000 in
theorem rule_right (l : List Ru.Rl) (v : Value) (S : Nat → Prop) (w : World) (hS : SliceIn S 3 RRl w v l) (hl : l.length ≤ 10000) (hx : ∀ x ∈ l, x.a.length ≤ 100000 ∧ x.b.length ≤ 100000) :
    Calls Tryz.prog 11 #[v] w fun e w' => e = .returned (.bool (Ru.right l)) ∧ Below w.heap.size w w' := by
  obtain ⟨pa, cap, rfl⟩ : ∃ p c, v = .slice p l.length c := by obtain ⟨p, c, h, _⟩ := hS; exact ⟨p, c, h⟩
  have HS := Lib.hid hS; have Hl := Lib.hid hl; have HX := Lib.hid hx
  clear hS hl hx
  have hmm := @run_makeMap Tryz.prog
  have hM := Lib.hid ((IMap.made w).cong (f' := seenN []) fun s => by simp [seenN])
  have hB := Lib.hid (below_new w (.map #[] 0))
  go_enter Tryz.func11, Tryz.ntmps11
  go_wp2_with fail
  go_loopw [11] (fun iv wr => ∃ k : Nat, k ≤ l.length ∧ iv = .int .i64 (k : Int) ∧ IMap wr w.heap.size (Ru.allW (l.take k)).length (seenN (Ru.allW (l.take k))) ∧ (Ru.allW (l.take k)).Nodup ∧ (∀ x ∈ l.take k, Ru.may x = true) ∧ Below w.heap.size w wr) (fun iv _ => l.length - (intOf iv).toNat)
  case atStart => exact ⟨0, Nat.zero_le _, rfl, hM.out, by simp [Ru.allW], fun x hx => by simp at hx, hB.out⟩
  case round =>
    clear hM hB hmm
    obtain ⟨k, hk, rfl, hM, hnd, hm, hb⟩ := hrel
    by_cases hlt : k < l.length
    · obtain ⟨x, hx⟩ : ∃ x, l[k]? = some x := ⟨_, List.getElem?_eq_getElem hlt⟩
      obtain ⟨b, off, rfl⟩ := rl_some HS.out hx
      have hxm := List.mem_of_getElem? hx
      obtain ⟨hxa, hxb⟩ := HX.out x hxm
      have hlt' : (k : Int) < (l.length : Int) := by omega
      have Hwk := Lib.hid (f2_w1 k (by have := Hl.out; omega))
      have Hsn := Lib.hid (Ru.allW_snoc l k x hx)
      have Hts := Lib.hid (takeS l k x hx)
      have Hlen := Lib.hid (show (Ru.allW (l.take k)).length + 4 ≤ 1000000 by
        have h1 := Ru.allW_len (l.take k); rw [List.length_take] at h1; have := Hl.out; omega)
      have Hx := Lib.hid hx; have HM := Lib.hid hM; have Hnd := Lib.hid hnd; have Hm := Lib.hid hm; have Hb := Lib.hid hb; have Hlt := Lib.hid hlt; have Hxm := Lib.hid hxm; have Hxa := Lib.hid hxa; have Hxb := Lib.hid hxb
      obtain ⟨c0, c1, c2⟩ := rl_cells (HS.out.below hb (fun _ _ _ h => h)) hx
      clear hx hM hnd hm hb hlt hxm hxa hxb hk
      go_upto_region 5 with fail
      obtain ⟨wa, hwa⟩ : ∃ W, W = wr.alloc (.cells #[.int .i64 x.kind, .string ⟨x.a.toArray⟩, .string ⟨x.b.toArray⟩] 36) := ⟨_, rfl⟩
      have d0 : wa.cell? ⟨wr.heap.size, 0, none⟩ = some (.int .i64 x.kind) := by rw [hwa, cell_of_row _ _ _ _ _ _ (heap_alloc_new wr _)]; rfl
      have d1 : wa.cell? ⟨wr.heap.size, 1, none⟩ = some (.string ⟨x.a.toArray⟩) := by rw [hwa, cell_of_row _ _ _ _ _ _ (heap_alloc_new wr _)]; rfl
      have d2 : wa.cell? ⟨wr.heap.size, 2, none⟩ = some (.string ⟨x.b.toArray⟩) := by rw [hwa, cell_of_row _ _ _ _ _ _ (heap_alloc_new wr _)]; rfl
      have hba : Below wr.heap.size wr wa := by rw [hwa]; exact below_new _ _
      have hga : wr.heap.size < wa.heap.size := by rw [hwa]; simp
      rw [← hwa]
      have Hba := Lib.hid (Hb.out.trans (hba.mono Hb.out.size))
      have HMa := Lib.hid (HM.out.below hba)
      have Hga := Lib.hid hga
      generalize wr.heap.size = ga at *
      clear hwa hba c0 c1 c2 HM Hb hga
      cases hmay : Ru.may x with
      | false =>
        have Hr := Lib.hid (Ru.right_may Hxm.out hmay)
        have Hmay := Lib.hid hmay
        clear hmay
        go_wp2_with (go_at_call 28; have ho := rule_may x wa Hxa.out Hxb.out; unfold rlV at ho; refine ho.mono ?_; clear ho; rw [Hmay.out]; rintro e w2 ⟨rfl, hb2⟩; have Hb2 := Lib.hid hb2; clear hb2)
        go_ret
        exact ⟨ret_bool Hr.out.symm, Hba.out.trans (Hb2.out.mono Hba.out.size)⟩
      | true =>
        have Hmay := Lib.hid hmay
        clear hmay
        go_wp2_with first
          | (go_at_call 28; have ho := rule_may x wa Hxa.out Hxb.out; unfold rlV at ho; refine ho.mono ?_; clear ho; rw [Hmay.out]; rintro e w2 ⟨rfl, hb2⟩; have e0 := (hb2.cell (p := ⟨ga, 0, none⟩) Hga.out).trans d0; have e1 := (hb2.cell (p := ⟨ga, 1, none⟩) Hga.out).trans d1; have e2 := (hb2.cell (p := ⟨ga, 2, none⟩) Hga.out).trans d2; clear d0 d1 d2; have Hb2 := Lib.hid (Hba.out.trans (hb2.mono Hba.out.size)); have HM2 := Lib.hid (HMa.out.below hb2); clear hb2)
          | (go_at_call 17; have ho := rule_writes x w2 Hxa.out Hxb.out; unfold rlV at ho; refine ho.mono ?_; clear ho; rintro e w3 ⟨p3, cc3, rfl, hW3, hb3⟩; have HW3 := Lib.hid hW3; have Hb3 := Lib.hid (Hb2.out.trans (hb3.mono Hb2.out.size)); have HM3 := Lib.hid (HM2.out.below hb3); clear hW3 hb3 e0 e1 e2)
        have HC := Lib.hid (show w.heap.size < w2.heap.size from HM2.out.lt)
        have Hwe := Lib.hid (Ru.writes_each x 100000 Hxa.out Hxb.out)
        have Hwl := Lib.hid (Ru.writes_len x)
        obtain ⟨ws, hws⟩ : ∃ ws, ws = Ru.writes x := ⟨_, rfl⟩
        have Hws := Lib.hid hws
        rw [← hws] at HW3 Hwe Hwl Hsn ⊢
        clear hws
        generalize w2.heap.size = C at *
        clear Hb2 HM2
        go_loopw [21] (fun jv wr => ∃ j : Nat, j ≤ ws.length ∧ jv = .int .i64 (j : Int) ∧ OwnL C 9 1 RStr wr (.slice p3 ws.length cc3) ws ∧ IMap wr w.heap.size (Ru.allW (l.take k) ++ ws.take j).length (seenN (Ru.allW (l.take k) ++ ws.take j)) ∧ (Ru.allW (l.take k) ++ ws.take j).Nodup ∧ Below w.heap.size w wr) (fun jv _ => ws.length - (intOf jv).toNat)
        case atStart => exact ⟨0, Nat.zero_le _, rfl, HW3.out, by simpa using HM3.out, by simpa using Hnd.out, Hb3.out⟩
        case round =>
          clear HW3 HM3 Hb3 Hnd
          obtain ⟨j, hj, rfl, hO, hM, hnd, hb⟩ := hrel
          by_cases hlt : j < ws.length
          · obtain ⟨y, hy⟩ : ∃ y, ws[j]? = some y := ⟨_, List.getElem?_eq_getElem hlt⟩
            have hlt' : (j : Int) < (ws.length : Int) := by omega
            have Hwj := Lib.hid (f2_w1 j (by have := Hwl.out; omega))
            obtain ⟨seen, hseen⟩ : ∃ s, s = Ru.allW (l.take k) ++ ws.take j := ⟨_, rfl⟩
            have Hsl := Lib.hid (show seen.length ≤ 1000000 by rw [hseen, List.length_append, List.length_take]; have := Hlen.out; have := Hwl.out; omega)
            have Hsm := Lib.hid (show seen.length < maxLen by have := Hsl.out; unfold maxLen; omega)
            have Hnx := Lib.hid (show seen ++ [y] = Ru.allW (l.take k) ++ ws.take (j + 1) by rw [hseen, takeS ws j y hy, List.append_assoc])
            have Htw := Lib.hid (show y ∈ seen → Ru.right l = false from fun h => Ru.right_twice l k j x y Hx.out (by rw [← Hws.out]; exact hy) (by rw [← Hws.out, ← hseen]; exact h))
            rw [← hseen] at hM hnd
            obtain ⟨bo, rfl⟩ : ∃ b, p3 = some ⟨b, 0, none⟩ := by
              obtain ⟨fl, hown, _⟩ := hO
              rcases hown.2 with ⟨h1, h2⟩ | ⟨g', c', r', h1, _⟩
              · rw [h2] at hlt; exact absurd hlt (Nat.not_lt_zero _)
              · simp only [Value.slice.injEq] at h1; exact ⟨g', h1.1⟩
            have ce := hO.cellS rfl hy
            have Hyl := Lib.hid (show y.length ≤ maxLen by have := Hwe.out y (List.mem_of_getElem? hy); unfold maxLen; omega)
            have hbd := Ru.seen_bound seen y Hsl.out
            have hwc := Ru.i64_seen _ hbd
            have hwd := Ru.w64_seen _ hbd
            have Hcb := Lib.hid (Ru.c64_seen _ hbd)
            have HO := Lib.hid hO; have HM := Lib.hid hM; have Hnd := Lib.hid hnd; have Hb := Lib.hid hb; have Hlt := Lib.hid hlt
            clear hO hM hnd hb hlt hj hbd hy hseen
            by_cases hmem : y ∈ seen
            · have hgt : decide (1 < seenN (seen ++ [y]) y) = true := decide_eq_true (Ru.seen_two seen y hmem)
              have Hr := Lib.hid (Htw.out hmem)
              clear hmem
              go_wp2_with first
                | (at_lookup; refine wpList_imap_look rfl (.tmp 25) (.tmp 26) rfl w.heap.size seen.length (seenN seen) rfl HM.out y rfl Hyl.out ?_)
                | (at_mapUpdate; refine wpList_imap_store rfl (.tmp 25) (.tmp 26) (.tmp 28) rfl w.heap.size seen.length (seenN seen) rfl HM.out y rfl Hyl.out Hsm.out (seenN seen y + 1) (by first | rfl | (simp only [Act.eval]; go_simp)) Hcb.out ?_; intro w6 hm6 hg6; have HM6 := Lib.hid (hm6.cong (Ru.seen_snoc seen y)); have Hb6 := Lib.hid (Hb.out.grown hg6 Hb.out.size (fun q e => by cases e; exact Nat.le_refl _)); clear hm6 hg6)
                | (at_lookup; refine wpList_imap_look rfl (.tmp 29) (.tmp 30) rfl w.heap.size (seen.length + 1) (seenN (seen ++ [y])) rfl HM6.out y rfl Hyl.out ?_)
              go_ret
              exact ⟨ret_bool Hr.out.symm, Hb6.out⟩
            · have hgt : decide (1 < seenN (seen ++ [y]) y) = false := decide_eq_false (by rw [Ru.seen_one seen y hmem]; decide)
              have Hnd2 := Lib.hid (Ru.nodup_snoc Hnd.out hmem)
              clear hmem
              go_wp2_with first
                | (at_lookup; refine wpList_imap_look rfl (.tmp 25) (.tmp 26) rfl w.heap.size seen.length (seenN seen) rfl HM.out y rfl Hyl.out ?_)
                | (at_mapUpdate; refine wpList_imap_store rfl (.tmp 25) (.tmp 26) (.tmp 28) rfl w.heap.size seen.length (seenN seen) rfl HM.out y rfl Hyl.out Hsm.out (seenN seen y + 1) (by first | rfl | (simp only [Act.eval]; go_simp)) Hcb.out ?_; intro w6 hm6 hg6; have HM6 := Lib.hid (hm6.cong (Ru.seen_snoc seen y)); have HO6 := Lib.hid (HO.out.grown hg6 (fun q hq e => by cases e; have := (HO.out.ge _ hq).1; have := HC.out; omega)); have Hb6 := Lib.hid (Hb.out.grown hg6 Hb.out.size (fun q e => by cases e; exact Nat.le_refl _)); clear hm6 hg6)
                | (at_lookup; refine wpList_imap_look rfl (.tmp 29) (.tmp 30) rfl w.heap.size (seen.length + 1) (seenN (seen ++ [y])) rfl HM6.out y rfl Hyl.out ?_)
              go_roundw
              case rel => exact ⟨j + 1, by have := Hlt.out; omega, by first | rfl | rw [Hwj.out], HO6.out, by rw [← Hnx.out, List.length_append]; exact HM6.out, by rw [← Hnx.out]; exact Hnd2.out, Hb6.out⟩
              case measure => have := Hlt.out; (try rw [Hwj.out]); simp [intOf]; omega
          · have he : j = ws.length := by omega
            subst he
            rw [List.take_length, ← Hsn.out] at hM hnd
            have HM := Lib.hid hM; have Hnd := Lib.hid hnd; have Hb := Lib.hid hb
            clear hO hM hnd hb hlt hj
            go_wp2_with fail
            go_roundw
            case rel =>
              refine ⟨k + 1, by have := Hlt.out; omega, by first | rfl | rw [Hwk.out], HM.out, Hnd.out, ?_, Hb.out⟩
              rw [Hts.out]
              intro y hy
              rcases List.mem_append.1 hy with h | h
              · exact Hm.out y h
              · rw [List.mem_singleton.1 h]; exact Hmay.out
            case measure => have := Hlt.out; (try rw [Hwk.out]); simp [intOf]; omega
    · have he : k = l.length := by omega
      subst he
      rw [List.take_length] at hnd hm
      have Hr := Lib.hid (Ru.right_end hm hnd)
      have Hb := Lib.hid hb
      clear hlt hk hnd hm hb hM
      by_cases h12 : l.length ≤ 12
      · have g12 : decide ((l.length : Int) ≤ 12) = true := decide_eq_true (by omega)
        have Hr2 := Lib.hid (show Ru.right l = true by rw [Hr.out]; exact decide_eq_true h12)
        clear h12
        go_wp2_with fail
        go_ret
        exact ⟨ret_bool Hr2.out.symm, Hb.out⟩
      · have g12 : decide ((l.length : Int) ≤ 12) = false := decide_eq_false (by omega)
        have Hr2 := Lib.hid (show Ru.right l = false by rw [Hr.out]; exact decide_eq_false h12)
        clear h12
        go_wp2_with fail
        go_ret
        exact ⟨ret_bool Hr2.out.symm, Hb.out⟩
end Go.Proofs.YtibinlpbcoihoaaGreatDoor
