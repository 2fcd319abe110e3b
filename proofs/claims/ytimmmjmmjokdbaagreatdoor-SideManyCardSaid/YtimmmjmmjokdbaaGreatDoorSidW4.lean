/- The walks of package side (layer 10), fourth part: keys, none twice. -/
import Derived.Test.YtimmmjmmjokdbaaGreatDoorSidW3
set_option linter.unusedSimpArgs false
set_option linter.unusedVariables false
namespace Go.Proofs.YtimmmjmmjokdbaaGreatDoor
open Go.RowKit
set_option maxRecDepth 100000 in
theorem IMap.run {w : World} {b n : Nat} {f : List UInt8 → Int} (h : IMap w b n f) (s : List UInt8) (hs : s.length ≤ maxLen) (c : Int) (hc : f s = c) :
    (Instr.lookup 89 (.map (some b)) (.string ⟨s.toArray⟩) false).run Tryz.prog w = .ok (.int .i64 c) w := by
  obtain ⟨D, h1, h2⟩ := h
  obtain ⟨d, hr, hat, _⟩ := h1.lookup_int skeyed Tryz.underlying89 Tryz.underlying3 (zero_int w) (skey s hs)
  rw [h2 s] at hat
  injection hat with hat
  injection hat with _ hat
  rw [hr, ← hc, hat]

set_option maxRecDepth 100000 in
set_option maxHeartbeats 3200000 in
theorem side_keys (l : List (List UInt8)) (v : Value) (S : Nat → Prop) (w : World) (hS : SliceIn S 1 RStr w v l) (hl : l.length ≤ 1000000) (hs : ∀ s ∈ l, s.length ≤ 1000000) :
    Calls Tryz.prog 32 #[v] w fun e w' => e = .returned (.bool (Sd.keys l)) ∧ Below w.heap.size w w' := by
  have hmm := @run_makeMap Tryz.prog
  obtain ⟨p, cap, rfl, hle, hm, hat⟩ := hS
  have Hat := Lib.hid hat; have Hs := Lib.hid hs; clear hat hm hle hs
  have hi0 := IMap.made w
  have Hi0 := Lib.hid hi0; clear hi0
  go_enter Tryz.func32, Tryz.ntmps32
  go_wp2_with fail
  clear hmm
  go_loopw [9] (fun i wr => ∃ (k : Nat) (f : List UInt8 → Int), k ≤ l.length ∧ i = .int .i64 (k : Int) ∧ Sd.keys l = Sd.keysN (l.take k) (l.drop k) ∧ Below w.heap.size w wr ∧ IMap wr w.heap.size k f ∧ w.heap.size < wr.heap.size ∧ (∀ key, 0 ≤ f key ∧ f key ≤ k ∧ (((l.take k).any fun g => g == key) = true ↔ 0 < f key))) (fun i _ => l.length - (intOf i).toNat)
  case atStart => exact ⟨0, fun _ => 0, Nat.zero_le _, rfl, rfl, below_new w _, Hi0.out, lt_alloc _ _, fun key => ⟨by simp, by simp, by simp⟩⟩
  case round =>
    clear Hi0
    obtain ⟨k, f, hk, rfl, hr, hb, hi, hsz, hf⟩ := hrel
    have Hr := Lib.hid hr; have Hb := Lib.hid hb; have Hi := Lib.hid hi; have Hf := Lib.hid hf
    clear hr hb hi hf
    by_cases hlt : k < l.length
    · obtain ⟨x, hx⟩ : ∃ x, l[k]? = some x := ⟨_, List.getElem?_eq_getElem hlt⟩
      obtain ⟨b, off, vs, rfl, _, hbw, hR, hc⟩ := Hat.out k x hx
      have hR : vs = _ := hR
      subst hR
      have e0 : wr.cell? ⟨b, off + k, none⟩ = some (.string ⟨x.toArray⟩) := by
        have := (Hb.out.cell (p := ⟨b, off + (k * 1 + 0), none⟩) hbw).trans (hc 0 _ rfl)
        rwa [Nat.mul_one, Nat.add_zero] at this
      have hlt' : (k : Int) < (l.length : Int) := by omega
      have hxl := Hs.out x (List.mem_of_getElem? hx)
      have hxk : x.length ≤ maxLen := by unfold maxLen; omega
      have hfk := Hf.out x
      have hw1 : IntKind.i64.wrap (f x + 1) = f x + 1 := IntWalk.i64_in _ (by omega)
      have hkm : k < maxLen := by unfold maxLen; omega
      have hfb : -9223372036854775808 ≤ f x + 1 ∧ f x + 1 ≤ 9223372036854775807 := by omega
      have hdrop : l.drop k = x :: l.drop (k + 1) := by
        obtain ⟨h1, h2⟩ := List.getElem?_eq_some_iff.1 hx
        rw [List.drop_eq_getElem_cons h1, h2]
      have hr2 : Sd.keys l = (Sd.key x && !((l.take k).any fun g => g == x) && Sd.keysN (l.take (k + 1)) (l.drop (k + 1))) := by
        rw [Hr.out, hdrop, Sd.keysN, List.take_add_one, hx]; rfl
      have hany : ∀ key, ((l.take (k + 1)).any fun g => g == key) = (((l.take k).any fun g => g == key) || x == key) := by
        intro key
        rw [List.take_add_one, hx]; simp
      have Hr2 := Lib.hid hr2; have Hany := Lib.hid hany; have Hxk := Lib.hid hxk; have Hfk := Lib.hid hfk; have Hkm := Lib.hid hkm; have Hfb := Lib.hid hfb; have Hlt := Lib.hid hlt; have Hxl := Lib.hid hxl
      clear hc hx hxk hfk hkm hfb hdrop hr2 hany Hr hxl
      go_upto_region 6 with (first
        | (at_lookup; go_loud (refine wpList_imap_look rfl (.tmp 13) (.tmp 14) rfl w.heap.size k f rfl Hi.out x rfl Hxk.out ?_))
        | (at_mapUpdate; go_loud (refine wpList_imap_store rfl (.tmp 13) (.tmp 14) (.tmp 16) rfl w.heap.size k f rfl Hi.out x rfl Hxk.out Hkm.out (f x + 1) rfl Hfb.out ?_); intro w6 hm6 hg6; have Hm6 := Lib.hid hm6; have Hg6 := Lib.hid hg6; clear hm6 hg6))
      obtain ⟨c, hc⟩ : ∃ c, c = f x + 1 := ⟨_, rfl⟩
      have Hc := Lib.hid hc
      have Hb6 := Lib.hid (Hb.out.grown Hg6.out (by omega) (fun j e => by injection e with e; omega))
      have hz6 : w.heap.size < w6.heap.size := Nat.lt_of_lt_of_le hsz Hg6.out.size
      have hd : decide ((1 : Int) < c) = ((l.take k).any fun g => g == x) := by
        have h1 := Hfk.out
        rw [hc]
        cases h2 : ((l.take k).any fun g => g == x)
        · have : ¬ 0 < f x := fun h => by have := h1.2.2.2 h; rw [h2] at this; cases this
          simp; omega
        · have : 0 < f x := h1.2.2.1 h2
          simp; omega
      obtain ⟨dup, hdup⟩ : ∃ dup, ((l.take k).any fun g => g == x) = dup := ⟨_, rfl⟩
      rw [hdup] at hd Hr2
      have Hdup := Lib.hid hdup; have Hd := Lib.hid hd
      obtain ⟨ky, hky⟩ : ∃ ky, Sd.key x = ky := ⟨_, rfl⟩
      rw [hky] at Hr2
      have Hky := Lib.hid hky
      clear hc hd hdup hky e0 hw1 Hb Hi Hg6
      simp only [Act.put]
      cases ky
      · have Hr3 := Lib.hid (show Sd.keys l = false by rw [Hr2.out]; rfl)
        go_wp2_with (go_at_call 34; refine (side_key x _ Hxl.out).mono ?_; rw [Hky.out]; rintro e w7 ⟨rfl, hb7⟩; have Hb7 := Lib.hid (Hb6.out.trans (hb7.mono Hb6.out.size)); clear hb7)
        go_ret
        exact ⟨ret_bool Hr3.out.symm, Hb7.out⟩
      · have hrun : ∀ w7, Below w6.heap.size w6 w7 → (Instr.lookup 89 (.map (some w.heap.size)) (.string ⟨x.toArray⟩) false).run Tryz.prog w7 = .ok (.int .i64 c) w7 := fun w7 h7 => (Hm6.out.below h7).run x Hxk.out c (by rw [if_pos rfl, Hc.out])
        have Hrun := Lib.hid hrun
        clear hrun
        cases dup
        · have hdc : decide ((1 : Int) < c) = false := Hd.out
          have Hr3 := Lib.hid (show Sd.keys l = Sd.keysN (l.take (k + 1)) (l.drop (k + 1)) by rw [Hr2.out]; rfl)
          have hkl : (k : Int) + 1 ≤ 9223372036854775807 := by omega
          have Hkl := Lib.hid hkl; have Hz6 := Lib.hid hz6
          clear hkl hlt' hz6 hsz
          go_upto_region 8 with (go_at_call 34; refine (side_key x _ Hxl.out).mono ?_; rw [Hky.out]; rintro e w7 ⟨rfl, hb7⟩; have Hb7 := Lib.hid (Hb6.out.trans (hb7.mono Hb6.out.size)); have hr7 := Hrun.out _ hb7; have Hm7 := Lib.hid (Hm6.out.below hb7); have Hz7 := Lib.hid (Nat.lt_of_lt_of_le Hz6.out hb7.size); clear hb7)
          have hkl := Hkl.out; have hz7 := Hz7.out; have hlt := Hlt.out
          clear hr7
          go_wp2_with fail
          go_roundw
          case rel =>
            refine ⟨k + 1, _, by omega, by go_num, Hr3.out, Hb7.out, Hm7.out, by omega, fun key => ?_⟩
            have hg0 := Hf.out key
            have hfn : f x = 0 := by
              have h1 := Hfk.out
              have h2 := Hdup.out
              have : ¬ 0 < f x := fun h => by have := h1.2.2.2 h; rw [h2] at this; cases this
              omega
            rw [Hany.out]
            by_cases hk : key = x
            · subst hk
              simp [hfn]; omega
            · have hne : (x == key) = false := by simp; exact fun e => hk e.symm
              rw [hne, Bool.or_false, if_neg hk]
              exact ⟨hg0.1, by have := hg0.2.1; omega, hg0.2.2⟩
          case measure => simp [intOf]; omega
        · have hdc : (1 : Int) < c := of_decide_eq_true Hd.out
          have Hr3 := Lib.hid (show Sd.keys l = false by rw [Hr2.out]; rfl)
          go_wp2_with (go_at_call 34; refine (side_key x _ Hxl.out).mono ?_; rw [Hky.out]; rintro e w7 ⟨rfl, hb7⟩; have Hb7 := Lib.hid (Hb6.out.trans (hb7.mono Hb6.out.size)); have hr7 := Hrun.out _ hb7; clear hb7)
          go_ret
          exact ⟨ret_bool Hr3.out.symm, Hb7.out⟩
    · have hlt' : ¬ (k : Int) < (l.length : Int) := by omega
      go_wp2_with fail
      go_ret
      refine ⟨ret_bool ?_, Hb.out⟩
      have h := Hr.out
      rw [List.drop_of_length_le (by omega)] at h
      rw [h]; rfl
end Go.Proofs.YtimmmjmmjokdbaaGreatDoor
