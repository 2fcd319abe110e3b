/- name.Words: what stands between blanks. The walks of package name, third part: join, the last small word, Split. The walks of package name, fourth part: Split, vonLast. The walks of package name, fifth part: vonLast, Split at commas, a Person's cells. -/
import Derived.Test.YtanbcokkfbidbaaGreatDoorNmW1
import Derived.Test.YtanbcokkfbidbaaGreatDoorAnyW
import Derived.Test.YtanbcokkfbidbaaGreatDoorLbQ
import Derived.Lib.OthersKept
import Derived.StillTailTactics
set_option linter.unusedSimpArgs false
set_option linter.unusedVariables false
namespace Go.Proofs.YtanbcokkfbidbaaGreatDoor
section
open Go.RowKit Go.Lib
theorem pieces_adv (p : UInt8 → Bool) (cur s : List UInt8) (i : Nat) (x : UInt8) (hx : s[i]? = some x) (hp : p x = false) : Lb.pieces p cur (s.drop i) = Lb.pieces p (cur ++ [x]) (s.drop (i + 1)) := by
  obtain ⟨h1, h2⟩ := List.getElem?_eq_some_iff.1 hx
  rw [List.drop_eq_getElem_cons h1, h2]
  simp [Lb.pieces, hp]
theorem pieces_hit (p : UInt8 → Bool) (cur s : List UInt8) (i : Nat) (x : UInt8) (hx : s[i]? = some x) (hp : p x = true) : Lb.pieces p cur (s.drop i) = cur :: Lb.pieces p [] (s.drop (i + 1)) := by
  obtain ⟨h1, h2⟩ := List.getElem?_eq_some_iff.1 hx
  rw [List.drop_eq_getElem_cons h1, h2]
  simp [Lb.pieces, hp]
theorem cur_succ (s : List UInt8) (a i : Nat) (x : UInt8) (h : a ≤ i) (hx : s[i]? = some x) : (s.drop a).take (i + 1 - a) = (s.drop a).take (i - a) ++ [x] := by
  rw [Nat.succ_sub h, List.take_add_one, List.getElem?_drop, show a + (i - a) = i by omega, hx]
  rfl
theorem pieces_advs (p : UInt8 → Bool) (s : List UInt8) (a i : Nat) (h : a ≤ i) : ∀ n, i + n ≤ s.length → (∀ j y, i ≤ j → j < i + n → s[j]? = some y → p y = false) →
    Lb.pieces p ((s.drop a).take (i - a)) (s.drop i) = Lb.pieces p ((s.drop a).take (i + n - a)) (s.drop (i + n))
  | 0, _, _ => rfl
  | n + 1, hl, hn => by
    rw [pieces_advs p s a i h n (by omega) (fun j y h1 h2 => hn j y h1 (by omega))]
    have hx : s[i + n]? = some (s[i + n]'(by omega)) := List.getElem?_eq_getElem (by omega)
    rw [pieces_adv p _ s (i + n) _ hx (hn _ _ (by omega) (by omega) hx), ← cur_succ s a (i + n) _ (by omega) hx]
    rfl
theorem own_iter {base e size n k pos : Nat} {W : World} {v : Value} {xs : List Value} (h : W.ownsRow base e size v n xs) (hk : k < base) (s : ByteArray) : (W.iterAt k s pos).ownsRow base e size v n xs := by
  refine ⟨h.1, ?_⟩
  rcases h.2 with h2 | ⟨g, cap, cur, h2, h3, h4, h5⟩
  · exact .inl h2
  · exact .inr ⟨g, cap, cur, h2, h3, by rw [iterAt_other W k g s pos (by omega)]; exact h4, h5⟩
theorem blank_wide (y : UInt8) (h : 128 ≤ y.toNat) : Lb.blank y = false := by
  unfold Lb.blank
  have h1 : (y == 32) = false := by rw [beq_eq_false_iff_ne]; rintro rfl; simp at h
  have h2 : (y == 9) = false := by rw [beq_eq_false_iff_ne]; rintro rfl; simp at h
  have h3 : (y == 10) = false := by rw [beq_eq_false_iff_ne]; rintro rfl; simp at h
  rw [h1, h2, h3]; rfl
theorem blank_cases (x : UInt8) : (Lb.blank x = true ∧ (x = 32 ∨ x = 9 ∨ x = 10)) ∨ (Lb.blank x = false ∧ ((x.toNat : Int) == 32) = false ∧ ((x.toNat : Int) == 9) = false ∧ ((x.toNat : Int) == 10) = false) := by
  by_cases h1 : x = 32
  · exact .inl ⟨by rw [h1]; rfl, .inl h1⟩
  · by_cases h2 : x = 9
    · exact .inl ⟨by rw [h2]; rfl, .inr (.inl h2)⟩
    · by_cases h3 : x = 10
      · exact .inl ⟨by rw [h3]; rfl, .inr (.inr h3)⟩
      · right
        have g : ∀ c : UInt8, x ≠ c → ((x.toNat : Int) == (c.toNat : Int)) = false := fun c hc => by rw [u8_beq, beq_eq_false_iff_ne]; exact hc
        refine ⟨?_, g 32 h1, g 9 h2, g 10 h3⟩
        unfold Lb.blank
        rw [beq_eq_false_iff_ne.2 h1, beq_eq_false_iff_ne.2 h2, beq_eq_false_iff_ne.2 h3]; rfl
set_option maxRecDepth 100000 in
set_option maxHeartbeats 3200000 in
theorem nm_Words (s : List UInt8) (w : World) (hs : s.length ≤ 1000000) :
    Calls Tryz.prog 57 #[.string ⟨s.toArray⟩] w fun e w' => (∃ g cap, e = .returned (.slice (some ⟨g, 0, none⟩) (Lb.words s).length cap) ∧ 0 < cap ∧ SliceIn (fun j => w.heap.size ≤ j) 1 RStr w' (.slice (some ⟨g, 0, none⟩) (Lb.words s).length cap) (Lb.words s)) ∧ Below w.heap.size w w' := by
  obtain ⟨i0, hi, hz0, hz1, hz2⟩ := info_parts str_info
  have Hi := Lib.hid hi; have Hz0 := Lib.hid hz0; have Hz1 := Lib.hid hz1; have Hz2 := Lib.hid hz2; clear hi hz0 hz1 hz2
  have hsz : (⟨s.toArray⟩ : ByteArray).size = s.length := by show s.toArray.size = _; simp
  have HszS := Lib.hid hsz
  clear hsz
  go_enter Tryz.func57, Tryz.ntmps57
  go_wp2_with fail
  go_loopw [3, 4] (fun ov fv wr => ∃ (i a : Nat) (out : List (List UInt8)), a ≤ i ∧ i ≤ s.length ∧ fv = .int .i64 (a : Int) ∧ OwnL (w.heap.size + 1) 9 1 RStr wr ov out ∧ wr.heap[w.heap.size]? = some (.stringIter ⟨s.toArray⟩ i) ∧ Below w.heap.size w wr ∧ out.length ≤ a ∧ out ++ Lb.pieces Lb.blank ((s.drop a).take (i - a)) (s.drop i) = Lb.pieces Lb.blank [] s) (fun _ _ wr => s.length - wr.iterPos w.heap.size)
  case atStart => exact ⟨0, 0, [], Nat.le_refl _, Nat.zero_le _, rfl, OwnL.nil _ _ _ _ _, World.iter_heap w _ _, below_new w _, Nat.le_refl _, rfl⟩
  case round =>
    obtain ⟨i, a, out, hai, hi, rfl, hO, hk, hb, hol, hP⟩ := hrel
    have hlt : w.heap.size < wr.heap.size := by
      rcases Nat.lt_or_ge w.heap.size wr.heap.size with h | h
      · exact h
      · rw [Array.getElem?_eq_none h] at hk; cases hk
    have hpos : wr.iterPos w.heap.size = i := by unfold World.iterPos; rw [hk]
    have HP := Lib.hid hP; have Hb := Lib.hid hb; have Hk := Lib.hid hk; have Hpos := Lib.hid hpos; have HO := Lib.hid hO
    clear hP hb hk hpos hO
    have hai' : (a : Int) ≤ (i : Int) := by omega
    have hil' : (i : Int) ≤ (s.length : Int) := by omega
    have hex : (⟨s.toArray⟩ : ByteArray).extract a i = ⟨((s.drop a).take (i - a)).toArray⟩ := extract_any s a i
    by_cases hil : i < s.length
    · obtain ⟨x, hx⟩ : ∃ x, s[i]? = some x := ⟨_, List.getElem?_eq_getElem hil⟩
      by_cases ha : x.toNat < 128
      · have he : (⟨s.toArray⟩ : ByteArray)[i]'(by rw [HszS.out]; exact hil) = x := by
          obtain ⟨_, e⟩ := List.getElem?_eq_some_iff.1 hx
          exact e
        have hnx := fun ty => run_next_ascii_at (P := Tryz.prog) wr w.heap.size ⟨s.toArray⟩ i ty Hk.out (by rw [HszS.out]; exact hil) (by rw [he]; exact ha)
        rw [he] at hnx
        have hb2 := below_iterAt Hb.out (k := w.heap.size) (Nat.le_refl _) ⟨s.toArray⟩ (i + 1)
        have hk2 := iterAt_heap wr w.heap.size ⟨s.toArray⟩ i (i + 1) Hk.out
        have hz2 := iterAt_size wr w.heap.size ⟨s.toArray⟩ (i + 1)
        obtain ⟨fl, hown, hrep⟩ := HO.out
        have hown2 := own_iter (pos := i + 1) hown (Nat.lt_succ_self _) ⟨s.toArray⟩
        have Hb2 := Lib.hid hb2; have Hk2 := Lib.hid hk2; have Hx := Lib.hid hx; have Hz := Lib.hid hz2; have Hown := Lib.hid hown2; have Hrep := Lib.hid hrep
        clear hb2 hk2 hx he hown hown2 hrep hz2
        obtain ⟨i1, hi1⟩ : ∃ i1, i1 = i + 1 := ⟨_, rfl⟩
        have hwi : IntKind.i64.wrap ((i : Int) + 1) = (i1 : Int) := by rw [IntWalk.i64_in _ (by omega)]; omega
        rw [← hi1] at Hb2 Hk2 Hz Hown hnx
        have Hi1 := Lib.hid hi1
        clear hi1
        rcases blank_cases x with ⟨hbl, hx3⟩ | ⟨hbl, q1, q2, q3⟩
        · have hst := pieces_hit Lb.blank ((s.drop a).take (i - a)) s i x Hx.out hbl
          have Hst := Lib.hid hst; have Hbl := Lib.hid hbl
          clear hst hbl
          have Hlt := Lib.hid hlt; have Hai := Lib.hid hai; have Hil := Lib.hid hil; have Hol := Lib.hid hol; have Hii := Lib.hid hi
          have hn47 : (out.length + 1) * 16 ≤ 140737488355328 := by omega
          have hnm : out.length + 1 ≤ 9223372036854775807 := by omega
          have Hsz : w.heap.size + 1 ≤ (wr.iterAt w.heap.size ⟨s.toArray⟩ i1).heap.size := by rw [Hz.out]; exact hlt
          generalize wr.iterAt w.heap.size ⟨s.toArray⟩ i1 = wq at *
          have HSZ := Lib.hid Hsz; have Hn47 := Lib.hid hn47; have Hnm := Lib.hid hnm
          clear hlt hai hil hol hi Hsz hn47 hnm
          rcases hx3 with rfl | rfl | rfl
          · have HK9 : w.heap.size < wq.heap.size := HSZ.out
            have HK9 := Lib.hid HK9
            go_wp2_with (at_builtin; go_loud (refine wpList_append1 rfl (.tmp 23) (.tmp 28) 35 rfl (w.heap.size + 1) 9 i0 (.string ⟨#[]⟩) 1 16 Tryz.underlying35 Hi.out Hz0.out Hz1.out Hz2.out rfl (by decide) _ _ _ Hown.out rfl [.string ⟨((s.drop a).take (i - a)).toArray⟩] rfl (by simp) rfl (by simp [Value.oneCell']) Hnm.out Hn47.out HSZ.out ?_); intro v2 w2 own2 g2 at2)
            go_roundw
            case rel => exact ⟨i1, i1, out ++ [(s.drop a).take (i - a)], Nat.le_refl _, by have := Hil.out; have := Hi1.out; omega, by go_num, OwnL.more Hrep.out rfl own2, ((g2.block _ HK9.out (fun e => by have := (Hown.out.lt _ e.symm).1; omega)).trans Hk2.out), Hb2.out.grown g2 Hb2.out.size (fun q e => Nat.le_of_succ_le (Hown.out.lt q e).1), by have := Hol.out; have := Hai.out; have := Hi1.out; simp; omega, by rw [Nat.sub_self, List.take_zero, List.append_assoc, List.singleton_append, ← HP.out, Hst.out, Hi1.out]⟩
            case measure =>
              have h3 : w2.iterPos w.heap.size = i1 := by unfold World.iterPos; rw [(g2.block _ HK9.out (fun e => by have := (Hown.out.lt _ e.symm).1; omega)).trans Hk2.out]
              have := Hi1.out; have := Hil.out
              rw [h3, Hpos.out]; omega
          · have HK9 : w.heap.size < wq.heap.size := HSZ.out
            have HK9 := Lib.hid HK9
            go_wp2_with (at_builtin; go_loud (refine wpList_append1 rfl (.tmp 23) (.tmp 28) 35 rfl (w.heap.size + 1) 9 i0 (.string ⟨#[]⟩) 1 16 Tryz.underlying35 Hi.out Hz0.out Hz1.out Hz2.out rfl (by decide) _ _ _ Hown.out rfl [.string ⟨((s.drop a).take (i - a)).toArray⟩] rfl (by simp) rfl (by simp [Value.oneCell']) Hnm.out Hn47.out HSZ.out ?_); intro v2 w2 own2 g2 at2)
            go_roundw
            case rel => exact ⟨i1, i1, out ++ [(s.drop a).take (i - a)], Nat.le_refl _, by have := Hil.out; have := Hi1.out; omega, by go_num, OwnL.more Hrep.out rfl own2, ((g2.block _ HK9.out (fun e => by have := (Hown.out.lt _ e.symm).1; omega)).trans Hk2.out), Hb2.out.grown g2 Hb2.out.size (fun q e => Nat.le_of_succ_le (Hown.out.lt q e).1), by have := Hol.out; have := Hai.out; have := Hi1.out; simp; omega, by rw [Nat.sub_self, List.take_zero, List.append_assoc, List.singleton_append, ← HP.out, Hst.out, Hi1.out]⟩
            case measure =>
              have h3 : w2.iterPos w.heap.size = i1 := by unfold World.iterPos; rw [(g2.block _ HK9.out (fun e => by have := (Hown.out.lt _ e.symm).1; omega)).trans Hk2.out]
              have := Hi1.out; have := Hil.out
              rw [h3, Hpos.out]; omega
          · have HK9 : w.heap.size < wq.heap.size := HSZ.out
            have HK9 := Lib.hid HK9
            go_wp2_with (at_builtin; go_loud (refine wpList_append1 rfl (.tmp 23) (.tmp 28) 35 rfl (w.heap.size + 1) 9 i0 (.string ⟨#[]⟩) 1 16 Tryz.underlying35 Hi.out Hz0.out Hz1.out Hz2.out rfl (by decide) _ _ _ Hown.out rfl [.string ⟨((s.drop a).take (i - a)).toArray⟩] rfl (by simp) rfl (by simp [Value.oneCell']) Hnm.out Hn47.out HSZ.out ?_); intro v2 w2 own2 g2 at2)
            go_roundw
            case rel => exact ⟨i1, i1, out ++ [(s.drop a).take (i - a)], Nat.le_refl _, by have := Hil.out; have := Hi1.out; omega, by go_num, OwnL.more Hrep.out rfl own2, ((g2.block _ HK9.out (fun e => by have := (Hown.out.lt _ e.symm).1; omega)).trans Hk2.out), Hb2.out.grown g2 Hb2.out.size (fun q e => Nat.le_of_succ_le (Hown.out.lt q e).1), by have := Hol.out; have := Hai.out; have := Hi1.out; simp; omega, by rw [Nat.sub_self, List.take_zero, List.append_assoc, List.singleton_append, ← HP.out, Hst.out, Hi1.out]⟩
            case measure =>
              have h3 : w2.iterPos w.heap.size = i1 := by unfold World.iterPos; rw [(g2.block _ HK9.out (fun e => by have := (Hown.out.lt _ e.symm).1; omega)).trans Hk2.out]
              have := Hi1.out; have := Hil.out
              rw [h3, Hpos.out]; omega
        · have hst : Lb.pieces Lb.blank ((s.drop a).take (i - a)) (s.drop i) = Lb.pieces Lb.blank ((s.drop a).take (i1 - a)) (s.drop i1) := by
            rw [pieces_adv Lb.blank _ s i x Hx.out hbl, Hi1.out, cur_succ s a i x hai Hx.out]
          have Hst := Lib.hid hst
          clear hst hbl
          have Hlt := Lib.hid hlt; have Hai := Lib.hid hai; have Hil := Lib.hid hil; have Hol := Lib.hid hol; have Hii := Lib.hid hi
          clear hlt hai hil hol hi
          go_wp2_with fail
          go_roundw
          case rel => exact ⟨i1, a, out, by have := Hai.out; have := Hi1.out; omega, by have := Hil.out; have := Hi1.out; omega, rfl, ⟨fl, Hown.out, Hrep.out⟩, Hk2.out, Hb2.out, Hol.out, by rw [← Hst.out]; exact HP.out⟩
          case measure =>
            have h3 : (wr.iterAt w.heap.size ⟨s.toArray⟩ i1).iterPos w.heap.size = i1 := by unfold World.iterPos; rw [Hk2.out]
            have := Hi1.out; have := Hil.out
            rw [h3, Hpos.out]; omega
      · obtain ⟨r, n, hd, r1, r2, r3, n1, n2, n3⟩ := decode_wide s i x hx (by omega)
        have hnx := fun ty => run_next_any_at (P := Tryz.prog) wr w.heap.size ⟨s.toArray⟩ i ty Hk.out (by rw [HszS.out]; exact hil)
        rw [hd] at hnx
        dsimp only at hnx
        have hb2 := below_iterAt Hb.out (k := w.heap.size) (Nat.le_refl _) ⟨s.toArray⟩ (i + n)
        have hk2 := iterAt_heap wr w.heap.size ⟨s.toArray⟩ i (i + n) Hk.out
        obtain ⟨fl, hown, hrep⟩ := HO.out
        have hown2 := own_iter (pos := i + n) hown (Nat.lt_succ_self _) ⟨s.toArray⟩
        have hst := pieces_advs Lb.blank s a i hai n n2 (fun j y h1 h2 h3 => blank_wide y (n3 j y h1 h2 h3))
        have q1 : ((r : Int) == 32) = false := by rw [beq_eq_false_iff_ne]; omega
        have q2 : ((r : Int) == 9) = false := by rw [beq_eq_false_iff_ne]; omega
        have q3 : ((r : Int) == 10) = false := by rw [beq_eq_false_iff_ne]; omega
        have Hb2 := Lib.hid hb2; have Hk2 := Lib.hid hk2; have Hown := Lib.hid hown2; have Hrep := Lib.hid hrep; have Hst := Lib.hid hst
        have Hai := Lib.hid hai; have Hn1 := Lib.hid n1; have Hn2 := Lib.hid n2; have Hol := Lib.hid hol; have Hii := Lib.hid hi
        clear hb2 hk2 hx hown hown2 hrep hst n1 n2 n3 r1 r2 r3 hd hlt hai hil hol hi ha
        go_wp2_with fail
        go_roundw
        case rel => exact ⟨i + n, a, out, by have := Hai.out; omega, Hn2.out, rfl, ⟨fl, Hown.out, Hrep.out⟩, Hk2.out, Hb2.out, Hol.out, by rw [← Hst.out]; exact HP.out⟩
        case measure =>
          have h3 : (wr.iterAt w.heap.size ⟨s.toArray⟩ (i + n)).iterPos w.heap.size = i + n := by unfold World.iterPos; rw [Hk2.out]
          have := Hn1.out; have := Hn2.out
          rw [h3, Hpos.out]; omega
    · have hnx := fun ty => run_next_end_at (P := Tryz.prog) wr w.heap.size ⟨s.toArray⟩ i ty Hk.out (by rw [HszS.out]; exact hil)
      obtain rfl : i = s.length := by omega
      obtain ⟨fl, hown, hrep⟩ := HO.out
      have Hown := Lib.hid hown
      have hfin : out ++ [s.drop a] = Lb.pieces Lb.blank [] s := by
        have h := HP.out
        rw [List.drop_length, List.take_of_length_le (by rw [List.length_drop]; exact Nat.le_refl _)] at h
        exact h
      have hex2 := extract_end s a
      have Hsz : w.heap.size + 1 ≤ wr.heap.size := hlt
      have HSZ := Lib.hid Hsz; have Hfin := Lib.hid hfin; have Hrep := Lib.hid hrep
      have hn47 : (out.length + 1) * 16 ≤ 140737488355328 := by omega
      have hnm : out.length + 1 ≤ 9223372036854775807 := by omega
      have Hn47 := Lib.hid hn47; have Hnm := Lib.hid hnm
      clear hex hown hfin hrep Hsz hn47 hnm hlt hol hi hai
      go_upto_region 10 with (at_builtin; go_loud (refine wpList_append1 rfl (.tmp 32) (.tmp 36) 35 rfl (w.heap.size + 1) 9 i0 (.string ⟨#[]⟩) 1 16 Tryz.underlying35 Hi.out Hz0.out Hz1.out Hz2.out rfl (by decide) _ _ _ Hown.out rfl [.string ⟨(s.drop a).toArray⟩] rfl (by simp) rfl (by simp [Value.oneCell']) Hnm.out Hn47.out HSZ.out ?_); intro v2 w2 own2 g2 at2)
      have HO2 : OwnL (w.heap.size + 1) 9 1 RStr w2 v2 (out ++ [s.drop a]) := OwnL.more Hrep.out rfl own2
      rw [Hfin.out] at HO2
      obtain ⟨p2, cap2, hv2, hp2, hq2⟩ := own2.form (Nat.succ_pos _)
      subst hv2
      have hb3 := Hb.out.grown g2 Hb.out.size (fun q e => Nat.le_of_succ_le (Hown.out.lt q e).1)
      have HB3 := Lib.hid hb3; have HO3 := Lib.hid HO2
      have hlen3 : out.length + 1 = (Lb.pieces Lb.blank [] s).length := by rw [← Hfin.out]; simp
      have Hlen3 := Lib.hid hlen3
      clear HO2 hb3 own2 g2 at2 hp2 hq2 hlen3
      go_wp2_with (go_at_call 84; refine (nm_del_words1 _ _ _ _ _ _ HO3.out Hlen3.out).mono ?_; rintro e w9 ⟨⟨v9, rfl, hv9, hS9⟩, hb9⟩; have Hv9 := Lib.hid hv9; clear hv9; have HS9 := Lib.hid hS9; have Hb9 := Lib.hid hb9; clear hS9 hb9)
      go_ret
      have hv9 := Hv9.out
      subst hv9
      have hcp : 0 < cap2 := by
        obtain ⟨p3, c3, e3, h3, _⟩ := HO3.out.slice RStr.size (fun _ => True) (fun _ _ => trivial)
        simp only [Value.slice.injEq] at e3
        have := Lb.pieces_pos Lb.blank s []
        omega
      exact ⟨⟨_, _, rfl, hcp, HS9.out.kept (fun _ h => by omega) (Nat.le_refl _) (fun _ _ _ => rfl) (fun _ _ _ h => h)⟩, HB3.out.trans (Hb9.out.mono (Nat.le_succ _))⟩
end
section
open Go.RowKit
theorem nm_Join (sep : List UInt8) (l : List (List UInt8)) (v : Value) (S : Nat → Prop) (w : World) (hS : SliceIn S 1 RStr w v l) (hl : Lb.tot l ≤ 2000000) (hsp : sep.length ≤ 2) :
    Calls Tryz.prog 45 #[v, .string ⟨sep.toArray⟩] w fun e w' => e = .returned (.string ⟨(Lib.join l sep).toArray⟩) ∧ Below w.heap.size w w' := by
  have hjl := Lb.joinS_le l sep
  have hln := Lb.len_tot l
  obtain ⟨p, cap, rfl, hle, hm, hat⟩ := hS
  cases l with
  | nil =>
    refine (Tryz.strings_Join_none p cap _ _).mono ?_
    rintro e w1 ⟨rfl, hw⟩
    exact ⟨rfl, by rw [hw]; exact Below.refl _ _⟩
  | cons x0 r =>
    obtain ⟨b, off, vs0, rfl, _, hbw, _, _⟩ := hat 0 x0 rfl
    have hmap : ((x0 :: r).map fun s => (⟨s.toArray⟩ : ByteArray)).map (·.data.toList) = x0 :: r := by
      rw [List.map_map]
      conv => rhs; rw [← List.map_id (x0 :: r)]
      exact List.map_congr_left (fun _ _ => by simp)
    have hsd : (⟨sep.toArray⟩ : ByteArray).data.toList = sep := by simp
    have hsq : Lb.tot (x0 :: r) * (sep.length + 1) ≤ 2000000 * 3 := Nat.mul_le_mul hl (by omega)
    have h1 := Tryz.strings_Join b off cap ((x0 :: r).map fun s => (⟨s.toArray⟩ : ByteArray)) ⟨sep.toArray⟩ w (fun j x hx => by
      rw [List.getElem?_map] at hx
      cases hs : (x0 :: r)[j]? with
      | none => rw [hs] at hx; cases hx
      | some s =>
        rw [hs] at hx
        obtain rfl := Option.some.inj hx
        obtain ⟨b', off', vs, he, _, _, hR, hc⟩ := hat j s hs
        simp only [Option.some.injEq, Addr.mk.injEq, and_true] at he
        obtain ⟨rfl, rfl⟩ := he
        have hR : vs = _ := hR
        subst hR
        have := hc 0 _ rfl
        rwa [Nat.mul_one, Nat.add_zero] at this) hbw (by rw [List.length_map]; omega) (by rw [List.length_map]; exact hle) (by rw [hmap, hsd]; omega)
    rw [hmap, hsd] at h1
    simp only [List.length_map] at h1
    exact h1
theorem nm_join (l : List (List UInt8)) (v : Value) (S : Nat → Prop) (w : World) (hS : SliceIn S 1 RStr w v l) (hl : Lb.tot l ≤ 2000000) :
    Calls Tryz.prog 56 #[v] w fun e w' => e = .returned (.string ⟨(Lb.join l).toArray⟩) ∧ Below w.heap.size w w' := by
  have HS := Lib.hid hS
  clear hS
  go_enter Tryz.func56, Tryz.ntmps56
  go_wp2_with (go_at_call 45; refine (nm_Join [32] l v S _ HS.out hl (by decide)).mono ?_; rintro e w1 ⟨rfl, hb⟩; have Hb := Lib.hid hb; clear hb)
  go_ret
  exact ⟨rfl, Hb.out⟩
set_option maxRecDepth 100000 in
set_option maxHeartbeats 1600000 in
theorem nm_Index (l : List (List UInt8)) (y : List UInt8) (v : Value) (S : Nat → Prop) (w : World) (hS : SliceIn S 1 RStr w v l) :
    Calls Tryz.prog 78 #[v, .string ⟨y.toArray⟩] w fun e w' => e = .returned (.int .i64 (ixP (fun s => s == y) l)) ∧ w = w' := by
  have hlm := hS.bound
  obtain ⟨pa, cap, rfl, hle, hm, hat⟩ := hS
  have Hat := Lib.hid hat
  clear hat hm hle
  go_enter Tryz.func78, Tryz.ntmps78
  go_wp2_with fail
  go_loopw [8] (fun iv wr => ∃ k : Nat, k ≤ l.length ∧ iv = .int .i64 (k : Int) ∧ (l.take k).any (fun s => s == y) = false ∧ wr = w) (fun iv _ => l.length - (intOf iv).toNat)
  case atStart => exact ⟨0, Nat.zero_le _, rfl, rfl, rfl⟩
  case round =>
    obtain ⟨k, hk, rfl, hany, rfl⟩ := hrel
    have Hany := Lib.hid hany; clear hany
    by_cases hlt : k < l.length
    · obtain ⟨x, hx⟩ : ∃ x, l[k]? = some x := ⟨_, List.getElem?_eq_getElem hlt⟩
      obtain ⟨b, off, vs, rfl, _, hbw, hR, hc⟩ := Hat.out k x hx
      have hR : vs = _ := hR
      subst hR
      have e0 : wr.cell? ⟨b, off + k, none⟩ = some (.string ⟨x.toArray⟩) := by
        have := hc 0 _ rfl
        rwa [Nat.mul_one, Nat.add_zero] at this
      have hlt' : (k : Int) < (l.length : Int) := by omega
      obtain ⟨k1, hk1⟩ : ∃ k1, k1 = k + 1 := ⟨_, rfl⟩
      have hwk : IntKind.i64.wrap ((k : Int) + 1) = (k1 : Int) := by rw [IntWalk.i64_in _ (by omega)]; omega
      have Hx := Lib.hid hx; have Hlt := Lib.hid hlt; have Hk1 := Lib.hid hk1
      clear hc hx hlt hk hk1
      by_cases hxy : x = y
      · have Hxy := Lib.hid hxy
        have Hr := Lib.hid (ixP_hit (fun s => s == y) l k x Hx.out Hany.out (by simp [hxy]))
        have hyx : y = x := hxy.symm
        clear hxy
        subst hyx
        go_wp2_with fail
        go_ret
        exact ⟨ret_int Hr.out.symm, rfl⟩
      · have hyx : (y == x) = false := beq_eq_false_iff_ne.2 fun e => hxy e.symm
        have Hxy := Lib.hid hxy
        clear hxy
        go_wp2_with fail
        go_roundw
        case rel => exact ⟨k1, by have := Hlt.out; have := Hk1.out; omega, rfl, by rw [Hk1.out]; exact any_take _ _ _ _ Hx.out Hany.out (by simpa using Hxy.out), trivial⟩
        case measure => have := Hlt.out; have := Hk1.out; simp [intOf]; omega
    · have hlt' : ¬ (k : Int) < (l.length : Int) := by omega
      have Hr := Lib.hid (ixP_miss (fun s => s == y) l (by have := Hany.out; rwa [List.take_of_length_le (by omega)] at this))
      clear hlt hk
      go_wp2_with fail
      go_ret
      exact ⟨ret_int Hr.out.symm, rfl⟩
set_option maxRecDepth 100000 in
set_option maxHeartbeats 1600000 in
theorem nm_last (l : List (List UInt8)) (v : Value) (S : Nat → Prop) (w : World) (hS : SliceIn S 1 RStr w v l) (hne : ∀ x ∈ l, x ≠ []) :
    Calls Tryz.prog 81 #[v] w fun e w' => e = .returned (.int .i64 (Lb.lastN l : Int)) ∧ w = w' := by
  have hlm := hS.bound
  obtain ⟨pa, cap, rfl, hle, hm, hat⟩ := hS
  have Hat := Lib.hid hat; have Hne := Lib.hid hne
  clear hat hm hle hne
  obtain ⟨z, hz⟩ : ∃ z : Int, z = (l.length : Int) - 2 := ⟨_, rfl⟩
  have hw1 : IntKind.i64.wrap ((l.length : Int) - 2) = z := by rw [IntWalk.i64_in _ (by omega)]; omega
  have Hz := Lib.hid hz
  clear hz
  go_enter Tryz.func81, Tryz.ntmps81
  go_wp2_with fail
  clear hw1
  go_loopw [3] (fun iv wr => ∃ k : Nat, k ≤ l.length - 1 ∧ (iv = .int .i64 ((k : Int) - 1) ∨ (k = 0 ∧ iv = .int .i64 (-2))) ∧ Lb.lastN l = Lb.lastGo l k ∧ wr = w) (fun iv _ => (intOf iv + 2).toNat)
  case atStart =>
    cases l with
    | nil => exact ⟨0, Nat.le_refl _, .inr ⟨rfl, by rw [Hz.out]; rfl⟩, rfl, rfl⟩
    | cons x r => exact ⟨r.length, by simp, .inl (by rw [Hz.out]; congr 1; simp; omega), rfl, rfl⟩
  case round =>
    obtain ⟨k, hk, hiv, hlast, rfl⟩ := hrel
    have Hlast := Lib.hid hlast; clear hlast
    cases k with
    | zero =>
      obtain ⟨q, hq, hq0⟩ : ∃ q : Int, u3 = .int .i64 q ∧ ¬ (q ≥ 0) := by
        rcases hiv with rfl | ⟨_, rfl⟩
        · exact ⟨_, rfl, by omega⟩
        · exact ⟨_, rfl, by omega⟩
      subst hq
      clear hiv hk
      have hq1 : ¬ (0 : Int) ≤ q := by omega
      go_wp2_with fail
      go_ret
      exact ⟨ret_int (by rw [Hlast.out]; rfl), rfl⟩
    | succ k =>
      obtain rfl : u3 = .int .i64 (k : Int) := by
        rcases hiv with rfl | ⟨h, _⟩
        · congr 1; omega
        · cases h
      have hlt : k < l.length := by omega
      obtain ⟨x, hx⟩ : ∃ x, l[k]? = some x := ⟨_, List.getElem?_eq_getElem hlt⟩
      have hgd : l.getD k [] = x := by rw [List.getD_eq_getElem?_getD, hx]; rfl
      obtain ⟨b, off, vs, rfl, _, hbw, hR, hc⟩ := Hat.out k x hx
      have hR : vs = _ := hR
      subst hR
      have e0 : wr.cell? ⟨b, off + k, none⟩ = some (.string ⟨x.toArray⟩) := by
        have := hc 0 _ rfl
        rwa [Nat.mul_one, Nat.add_zero] at this
      have hlt' : (k : Int) < (l.length : Int) := by omega
      have hge : (0 : Int) ≤ (k : Int) := by omega
      have hxn := Lib.hid (Hne.out x (List.mem_of_getElem? hx))
      obtain ⟨k1, hk1⟩ : ∃ k1, k1 = k + 1 := ⟨_, rfl⟩
      have hwk : IntKind.i64.wrap ((k : Int) + 1) = (k1 : Int) := by rw [IntWalk.i64_in _ (by omega)]; omega
      obtain ⟨z1, hz1⟩ : ∃ z1 : Int, z1 = (k : Int) - 1 := ⟨_, rfl⟩
      have hwz : IntKind.i64.wrap ((k : Int) - 1) = z1 := by rw [IntWalk.i64_in _ (by omega)]; omega
      have hlg : Lb.lastGo l (k + 1) = if Lb.smallW x then k + 1 else Lb.lastGo l k := by rw [← hgd]; rfl
      have Hlg := Lib.hid hlg; have Hk1 := Lib.hid hk1; have Hz1 := Lib.hid hz1; have Hk := Lib.hid hk
      clear hc hx hlt hk hk1 hz1 hlg hgd hiv
      obtain ⟨t, ht⟩ : ∃ t, Lb.smallW x = t := ⟨_, rfl⟩
      rw [ht] at Hlg
      have Ht := Lib.hid ht
      clear ht
      cases t
      · go_wp2_with (go_at_call 83; refine (nm_small x _ hxn.out).mono ?_; rw [Ht.out]; rintro e w9 ⟨rfl, rfl⟩)
        go_roundw
        case rel => exact ⟨k, by have := Hk.out; omega, .inl (by rw [Hz1.out]), by rw [Hlast.out, Hlg.out]; rfl, trivial⟩
        case measure => have := Hz1.out; simp [intOf]; omega
      · go_wp2_with (go_at_call 83; refine (nm_small x _ hxn.out).mono ?_; rw [Ht.out]; rintro e w9 ⟨rfl, rfl⟩)
        go_ret
        exact ⟨ret_int (by rw [Hlast.out, Hlg.out, Hk1.out]; rfl), rfl⟩
theorem SliceIn.suf {α : Type} {S : Nat → Prop} {size : Nat} {R : α → List Value → Prop} {w : World} {b o n cap : Nat} {xs : List α} (h : SliceIn S size R w (.slice (some ⟨b, o, none⟩) n cap) xs) (k : Nat) (hk : k ≤ xs.length) : SliceIn S size R w (.slice (some ⟨b, o + k * size, none⟩) (n - k) (cap - k)) (xs.drop k) := by
  obtain ⟨p1, cap1, hv, h1, h2, h3⟩ := h
  simp only [Value.slice.injEq] at hv
  obtain ⟨rfl, rfl, rfl⟩ := hv
  refine ⟨_, cap - k, by rw [List.length_drop], by rw [List.length_drop]; omega, by omega, fun i x hi => ?_⟩
  rw [List.getElem?_drop] at hi
  obtain ⟨b', off, vs, hp, hS, hlt, hR, hc⟩ := h3 (k + i) x hi
  simp only [Option.some.injEq, Addr.mk.injEq, and_true] at hp
  obtain ⟨rfl, rfl⟩ := hp
  refine ⟨_, _, vs, rfl, hS, hlt, hR, fun j u hj => ?_⟩
  have := hc j u hj
  rw [show o + k * size + (i * size + j) = o + ((k + i) * size + j) by rw [Nat.add_mul]; omega]
  exact this
end
section
open Go.RowKit
def lenOf : Value → Nat | .slice _ n _ => n | _ => 0
theorem SliceIn.strong {α : Type} {S : Nat → Prop} {size : Nat} {R : α → List Value → Prop} {w : World} {v : Value} {xs : List α} (h : SliceIn S size R w v xs) : SliceIn (fun j => S j ∧ j < w.heap.size) size R w v xs := by
  obtain ⟨p, cap, hv, h1, h2, h3⟩ := h
  refine ⟨p, cap, hv, h1, h2, fun i x hi => ?_⟩
  obtain ⟨b, off, vs, hp, hS, hlt, hR, hc⟩ := h3 i x hi
  exact ⟨b, off, vs, hp, ⟨hS, hlt⟩, hlt, hR, hc⟩
theorem splitN_adv (q : List (List UInt8)) : ∀ (p cur : List (List UInt8)), p.any (fun s => s == Lb.andW) = false → Lb.splitN cur (p ++ q) = Lb.splitN (cur ++ p) q
  | [], cur, _ => by simp
  | x :: p, cur, h => by
    simp only [List.any_cons, Bool.or_eq_false_iff] at h
    rw [List.cons_append, Lb.splitN, h.1]
    simp only [Bool.false_eq_true, if_false]
    rw [splitN_adv q p _ h.2]
    simp
theorem splitN_miss (l : List (List UInt8)) (h : l.any (fun s => s == Lb.andW) = false) (hl : l ≠ []) : Lb.splitN [] l = [Lb.join l] := by
  have := splitN_adv [] l [] h
  rw [List.append_nil, List.nil_append] at this
  rw [this, Lb.splitN]
  cases l with
  | nil => exact absurd rfl hl
  | cons _ _ => rfl
theorem splitN_hit (l : List (List UInt8)) (k : Nat) (h : (l.take k).any (fun s => s == Lb.andW) = false) (hk : l[k]? = some Lb.andW) : Lb.splitN [] l = (if k = 0 then [] else [Lb.join (l.take k)]) ++ Lb.splitN [] (l.drop (k + 1)) := by
  obtain ⟨h1, h2⟩ := List.getElem?_eq_some_iff.1 hk
  have e : l = l.take k ++ Lb.andW :: l.drop (k + 1) := by
    conv => lhs; rw [← List.take_append_drop k l, List.drop_eq_getElem_cons h1, h2]
  conv => lhs; rw [e]
  rw [splitN_adv _ _ _ h, List.nil_append, Lb.splitN]
  have he : (Lb.andW == Lb.andW) = true := by decide
  rw [if_pos he]
  by_cases h0 : k = 0
  · subst h0; simp
  · have hne : (l.take k).isEmpty = false := by
      cases hh : l.take k with
      | nil => have := congrArg List.length hh; rw [List.length_take, List.length_nil] at this; omega
      | cons _ _ => rfl
    rw [hne, if_neg h0]; rfl
set_option maxRecDepth 100000 in
set_option maxHeartbeats 3200000 in
theorem nm_Split (s : List UInt8) (w : World) (hs : s.length ≤ 1000000) :
    Calls Tryz.prog 54 #[.string ⟨s.toArray⟩] w fun e w' => (∃ v, e = .returned v ∧ SliceIn (fun j => w.heap.size ≤ j) 1 RStr w' v (Lb.split s)) ∧ Below w.heap.size w w' := by
  obtain ⟨i0, hi, hz0, hz1, hz2⟩ := info_parts str_info
  have Hi := Lib.hid hi; have Hz0 := Lib.hid hz0; have Hz1 := Lib.hid hz1; have Hz2 := Lib.hid hz2; clear hi hz0 hz1 hz2
  have htw := Lb.tot_words s
  have hlw := Lb.len_tot (Lb.words s)
  obtain ⟨l0, hl0⟩ : ∃ l0, Lb.words s = l0 := ⟨_, rfl⟩
  have hsp : Lb.split s = Lb.splitN [] l0 := by rw [← hl0]; rfl
  rw [hl0] at htw hlw
  have Hsp := Lib.hid hsp; have Hl0 := Lib.hid hl0
  clear hsp hl0
  go_enter Tryz.func54, Tryz.ntmps54
  go_wp2_with (go_at_call 57; refine (nm_Words s _ hs).mono ?_; rw [Hl0.out]; rintro e w1 ⟨⟨g, cap, rfl, hcp, hS1⟩, hb1⟩; have HS1 := Lib.hid hS1.strong; have Hb1 := Lib.hid hb1; clear hS1 hb1)
  go_loopw [3, 4] (fun ov lv wr => ∃ (b o c : Nat) (l out : List (List UInt8)), lv = .slice (some ⟨b, o, none⟩) l.length c ∧ OwnL w1.heap.size 9 1 RStr wr ov out ∧ SliceIn (fun j => w.heap.size ≤ j ∧ j < w1.heap.size) 1 RStr wr (.slice (some ⟨b, o, none⟩) l.length c) l ∧ Below w1.heap.size w1 wr ∧ Lb.tot l ≤ 1000001 ∧ out.length + l.length ≤ 1000001 ∧ out ++ Lb.splitN [] l = Lb.split s) (fun _ lv _ => lenOf lv)
  case atStart => exact ⟨g, 0, cap, l0, [], rfl, OwnL.nil _ _ _ _ _, HS1.out, Below.refl _ _, by omega, by simp; omega, by rw [Hsp.out]; rfl⟩
  case round =>
    obtain ⟨b, o, c, l, out, rfl, hO, hS, hb, htl, hol, hP⟩ := hrel
    have HS := Lib.hid hS; have Hb := Lib.hid hb; have HP := Lib.hid hP; have Htl := Lib.hid htl; have Hol := Lib.hid hol
    obtain ⟨fl, hown, hrep⟩ := hO
    have Hown := Lib.hid hown; have Hrep := Lib.hid hrep
    have hn47 : (out.length + 1) * 16 ≤ 140737488355328 := by omega
    have hnm : out.length + 1 ≤ 9223372036854775807 := by omega
    have Hn47 := Lib.hid hn47; have Hnm := Lib.hid hnm; have HSZ := Lib.hid hb.size
    clear hS hb hP hown hrep hn47 hnm HS1
    by_cases hpos : 0 < l.length
    · have hpos' : (0 : Int) < (l.length : Int) := by omega
      rcases ixP_cases (fun s => s == Lb.andW) l with ⟨hany, hix⟩ | ⟨k, x, hx, hpx, hany, hix⟩
      · have Hix := Lib.hid hix
        have hfin : out ++ [Lb.join l] = Lb.split s := by rw [← HP.out, splitN_miss l hany (List.length_pos_iff.1 hpos)]
        have Hfin := Lib.hid hfin; have Hpos := Lib.hid hpos
        clear hix hany hfin hpos htl hol htw hlw hs
        go_wp2_with (first
          | (go_at_call 78; refine (nm_Index l Lb.andW _ _ _ HS.out).mono ?_; rw [Hix.out]; rintro e w9 ⟨rfl, rfl⟩)
          | (go_at_call 56; refine (nm_join l _ _ _ HS.out (by have := Htl.out; omega)).mono ?_; rintro e w5 ⟨rfl, hb5⟩; have Hown5 := Lib.hid (own_below Hown.out hb5); have Hb5 := Lib.hid (Hb.out.trans (hb5.mono Hb.out.size)); have HSZ5 := Lib.hid Hb5.out.size; clear hb5)
          | (at_builtin; go_loud (refine wpList_append1 rfl (.tmp 15) (.tmp 18) 35 rfl w1.heap.size 9 i0 (.string ⟨#[]⟩) 1 16 Tryz.underlying35 Hi.out Hz0.out Hz1.out Hz2.out rfl (by decide) _ _ _ Hown5.out rfl [.string ⟨(Lb.join l).toArray⟩] rfl (by simp) rfl (by simp [Value.oneCell']) Hnm.out Hn47.out HSZ5.out ?_); intro v2 w2 own2 g2 at2))
        go_ret
        have HO2 : OwnL w1.heap.size 9 1 RStr w2 v2 (out ++ [Lb.join l]) := OwnL.more Hrep.out rfl own2
        rw [Hfin.out] at HO2
        have hb3 := Hb5.out.grown g2 Hb5.out.size (fun q e => (Hown5.out.lt q e).1)
        exact ⟨⟨_, rfl, HO2.slice RStr.size _ (fun q h => Nat.le_trans Hb1.out.size h)⟩, Hb1.out.trans (hb3.mono Hb1.out.size)⟩
      · have hk : k < l.length := (List.getElem?_eq_some_iff.1 hx).1
        obtain rfl : x = Lb.andW := by simpa using hpx
        have hst := splitN_hit l k hany hx
        have Hix := Lib.hid hix; have Hst := Lib.hid hst; have Hk := Lib.hid hk; have Hpos := Lib.hid hpos
        obtain ⟨k1, hk1⟩ : ∃ k1, k1 = k + 1 := ⟨_, rfl⟩
        have hwk : IntKind.i64.wrap ((k : Int) + 1) = (k1 : Int) := by rw [IntWalk.i64_in _ (by omega)]; omega
        have hlc : l.length ≤ c := by
          obtain ⟨p3, c3, e3, h3, _⟩ := HS.out
          simp only [Value.slice.injEq] at e3
          omega
        have hk1l : (k1 : Int) ≤ (l.length : Int) := by omega
        have hkc : (k : Int) ≤ (c : Int) := by omega
        have hk1c : (k1 : Int) ≤ (c : Int) := by omega
        have hlc' : (l.length : Int) ≤ (c : Int) := by omega
        have hkneg : ¬ (k : Int) < 0 := by omega
        have hpre := HS.out.pre k (by omega)
        have hptl := Lb.tot_take l k
        have hdtl := Lb.tot_drop l (k + 1)
        have Hpre := Lib.hid hpre; have Hptl := Lib.hid hptl; have Hdtl := Lib.hid hdtl; have Hk1 := Lib.hid hk1; have Hlc := Lib.hid hlc
        have hlk : (l.take k).length = k := by rw [List.length_take]; omega
        have Hlk := Lib.hid hlk
        have hnc : ¬ (k1 : Int) < 0 := by omega
        clear hix hany hx hpx hst hk hpos hk1 hlc hpre hptl hdtl htl hol htw hlw hs hlk
        have hlm9 : c ≤ 9223372036854775807 := by
          obtain ⟨p3, c3, e3, _, h3, _⟩ := HS.out
          simp only [Value.slice.injEq] at e3
          unfold maxLen at h3; omega
        have hdl : (l.drop k1).length = l.length - k1 := List.length_drop
        have hsuf : ∀ W : World, SliceIn (fun j => w.heap.size ≤ j ∧ j < w1.heap.size) 1 RStr W (.slice (some ⟨b, o, none⟩) l.length c) l → ∃ o', (if c = k1 then some (⟨b, o, none⟩ : Addr) else some ⟨b, o + k1, none⟩) = some ⟨b, o', none⟩ ∧ SliceIn (fun j => w.heap.size ≤ j ∧ j < w1.heap.size) 1 RStr W (.slice (some ⟨b, o', none⟩) (l.drop k1).length (c - k1)) (l.drop k1) := fun W h => by
          by_cases hc : c = k1
          · have hd : l.drop k1 = [] := List.drop_of_length_le (by have := Hlc.out; omega)
            refine ⟨o, if_pos hc, ?_⟩
            rw [hd]
            exact ⟨_, _, rfl, Nat.zero_le _, by unfold maxLen; have := hlm9; omega, fun i x hi => by simp at hi⟩
          · refine ⟨o + k1, if_neg hc, ?_⟩
            have := h.suf k1 (by have := Hk.out; have := Hk1.out; omega)
            rw [hdl]
            rwa [Nat.mul_one] at this
        have Hsuf := Lib.hid hsuf
        have Hdl := Lib.hid hdl
        clear hsuf hdl hlm9
        by_cases hk0 : k = 0
        · have hk0' : ¬ (0 : Int) < (k : Int) := by omega
          have hP2 : out ++ Lb.splitN [] (l.drop k1) = Lb.split s := by rw [← HP.out, Hst.out, if_pos hk0, Hk1.out]; rfl
          have HP2 := Lib.hid hP2; have Hk0 := Lib.hid hk0
          clear hk0 hP2
          go_wp2_with (go_at_call 78; refine (nm_Index l Lb.andW _ _ _ HS.out).mono ?_; rw [Hix.out]; rintro e w9 ⟨rfl, rfl⟩)
          all_goals go_roundw
          case rel =>
            obtain ⟨o', ho', hS'⟩ := Hsuf.out _ HS.out
            refine ⟨b, o', c - k1, l.drop k1, out, ?_, ⟨fl, Hown.out, Hrep.out⟩, hS', Hb.out, ?_, ?_, HP2.out⟩
            · rw [ho', Hdl.out]
            · have := Hdtl.out; have := Htl.out; have := Hk1.out; rw [this]; omega
            · have := Hol.out; rw [Hdl.out]; omega
          case measure => have := Hpos.out; have := Hk1.out; simp only [lenOf]; omega
        · have hk0' : (0 : Int) < (k : Int) := by omega
          have hP2 : (out ++ [Lb.join (l.take k)]) ++ Lb.splitN [] (l.drop k1) = Lb.split s := by rw [← HP.out, Hst.out, if_neg hk0, Hk1.out]; simp
          have HP2 := Lib.hid hP2; have Hk0 := Lib.hid hk0
          clear hk0 hP2
          go_wp2_with (first
            | (go_at_call 78; refine (nm_Index l Lb.andW _ _ _ HS.out).mono ?_; rw [Hix.out]; rintro e w9 ⟨rfl, rfl⟩)
            | (go_at_call 56; refine (nm_join (l.take k) _ _ _ Hpre.out (by have := Hptl.out; have := Htl.out; omega)).mono ?_; rintro e w5 ⟨rfl, hb5⟩; have Hown5 := Lib.hid (own_below Hown.out hb5); have HS5 := Lib.hid (HS.out.below' hb5); have Hb5 := Lib.hid (Hb.out.trans (hb5.mono Hb.out.size)); have HSZ5 := Lib.hid Hb5.out.size; clear hb5)
            | (at_builtin; go_loud (refine wpList_append1 rfl (.tmp 22) (.tmp 27) 35 rfl w1.heap.size 9 i0 (.string ⟨#[]⟩) 1 16 Tryz.underlying35 Hi.out Hz0.out Hz1.out Hz2.out rfl (by decide) _ _ _ Hown5.out rfl [.string ⟨(Lb.join (l.take k)).toArray⟩] rfl (by simp) rfl (by simp [Value.oneCell']) Hnm.out Hn47.out HSZ5.out ?_); intro v2 w2 own2 g2 at2))
          all_goals go_roundw
          case rel =>
            obtain ⟨o', ho', hS'⟩ := Hsuf.out _ HS5.out
            have hb3 := Hb5.out.grown g2 Hb5.out.size (fun q e => (Hown5.out.lt q e).1)
            refine ⟨b, o', c - k1, l.drop k1, out ++ [Lb.join (l.take k)], ?_, OwnL.more Hrep.out rfl own2, hS'.kept (fun _ h => h) g2.size (fun j hj hlt => g2.block j hlt (fun e => by have := (Hown5.out.lt _ e.symm).1; omega)) (fun _ _ _ h => h), hb3, ?_, ?_, HP2.out⟩
            · rw [ho', Hdl.out]
            · have := Hdtl.out; have := Htl.out; have := Hk1.out; rw [this]; omega
            · have := Hol.out; have := Hk1.out; have := Hpos.out; rw [Hdl.out, List.length_append, List.length_singleton]; omega
          case measure => have := Hpos.out; have := Hk1.out; simp only [lenOf]; omega
    · have hpos' : ¬ (0 : Int) < (l.length : Int) := by omega
      obtain rfl : l = [] := by cases l with | nil => rfl | cons _ _ => simp at hpos
      have hfin : out = Lb.split s := by rw [← HP.out]; simp [Lb.splitN]
      have Hfin := Lib.hid hfin
      clear hpos htl hol
      go_wp2_with fail
      go_ret
      have HO2 : OwnL w1.heap.size 9 1 RStr wr u3 out := ⟨fl, Hown.out, Hrep.out⟩
      rw [Hfin.out] at HO2
      exact ⟨⟨_, rfl, HO2.slice RStr.size _ (fun q h => Nat.le_trans Hb1.out.size h)⟩, Hb1.out.trans (Hb.out.mono Hb1.out.size)⟩
end
section
open Go.RowKit
set_option maxRecDepth 100000 in
set_option maxHeartbeats 1600000 in
theorem nm_vonLast (l : List (List UInt8)) (b o cap : Nat) (S : Nat → Prop) (w : World) (hS : SliceIn S 1 RStr w (.slice (some ⟨b, o, none⟩) l.length cap) l) (hcp : 0 < cap) (hne : ∀ x ∈ l, x ≠ []) (htl : Lb.tot l ≤ 2000000) :
    Calls Tryz.prog 80 #[.slice (some ⟨b, o, none⟩) l.length cap] w fun e w' => e = .returned (.tuple #[.string ⟨(Lb.join (l.take (Lb.lastN l))).toArray⟩, .string ⟨(Lb.join (l.drop (Lb.lastN l))).toArray⟩]) ∧ Below w.heap.size w w' := by
  have hnl := Lb.lastN_le l
  obtain ⟨n, hn⟩ : ∃ n, Lb.lastN l = n := ⟨_, rfl⟩
  rw [hn] at hnl ⊢
  have hlc : l.length ≤ cap ∧ cap ≤ 9223372036854775807 := by
    obtain ⟨p3, c3, e3, h3, h4, _⟩ := hS
    simp only [Value.slice.injEq] at e3
    unfold maxLen at h4; omega
  have Cpre : ∀ W, Below w.heap.size w W → Calls Tryz.prog 56 #[.slice (some ⟨b, o, none⟩) n cap] W fun e w' => e = .returned (.string ⟨(Lb.join (l.take n)).toArray⟩) ∧ Below W.heap.size W w' := fun W hW =>
    nm_join _ _ _ _ ((hS.below' hW).pre n (by omega)) (Nat.le_trans (Lb.tot_take l n) htl)
  have Csuf : ∀ W, Below w.heap.size w W → Calls Tryz.prog 56 #[.slice (some ⟨b, o + n, none⟩) (l.length - n) (cap - n)] W fun e w' => e = .returned (.string ⟨(Lb.join (l.drop n)).toArray⟩) ∧ Below W.heap.size W w' := fun W hW =>
    nm_join _ _ _ _ (by have := (hS.below' hW).suf n (by omega); rwa [Nat.mul_one] at this) (Nat.le_trans (Lb.tot_drop l n) htl)
  have q1 : (n : Int) ≤ (cap : Int) := by omega
  have q2 : (n : Int) ≤ (l.length : Int) := by omega
  have q3 : ¬ cap = n := by omega
  have q4 : (l.length : Int) ≤ (cap : Int) := by omega
  have Hpre := Lib.hid Cpre; have Hsuf := Lib.hid Csuf; have Hn := Lib.hid hn; have HS := Lib.hid hS; have Hne := Lib.hid hne
  clear Cpre Csuf hn hS hne hlc hnl hcp htl
  have hb0 : Below w.heap.size w w.drew := (Below.refl _ _).drew
  go_enter Tryz.func80, Tryz.ntmps80
  go_wp2_with (go_at_call 81; refine (nm_last l _ _ _ HS.out Hne.out).mono ?_; rw [Hn.out]; rintro e w9 ⟨rfl, rfl⟩)
  go_region_held3 (fun W => Below w.heap.size w W)
    (first | exact hS | exact bseq ‹_› b2 | go_keep)
    (first
      | (go_at_call 56; with_reducible refine (Hpre.out _ ?_).mono ?_; (assumption); rintro e w2 ⟨rfl, b2⟩)
      | (go_at_call 56; with_reducible refine (Hsuf.out _ ?_).mono ?_; (assumption); rintro e w2 ⟨rfl, b2⟩))
  go_wp2
  go_ret2
  exact ⟨rfl, by assumption⟩
theorem std_commas (s : List UInt8) (m : Int) (w : World) (hs : s.length ≤ 1000000) (hm : w.cell? ⟨0, 0, none⟩ = some (.int .i64 m)) :
    Calls Tryz.prog 79 #[.string ⟨s.toArray⟩, .string ⟨#[44]⟩] w fun e w' => e = .returned (.slice (some ⟨w.heap.size, 0, none⟩) (Lb.commas s).length (Lb.commas s).length) ∧ SliceIn (fun j => w.heap.size ≤ j) 1 RStr w' (.slice (some ⟨w.heap.size, 0, none⟩) (Lb.commas s).length (Lb.commas s).length) (Lb.commas s) ∧ Below w.heap.size w w' := by
  have hsz : (⟨s.toArray⟩ : ByteArray).size = s.length := by show s.toArray.size = _; simp
  have h := Tryz.strings_Split ⟨s.toArray⟩ ⟨#[44]⟩ m w (by rw [hsz]; omega) hm (Nat.le_refl 1)
  rw [Lb.count_pieces 44 s, Lb.splitB_pieces 44 s, List.map_map] at h
  have hl := Lb.tot_pieces (fun c => c == 44) s []
  have hl2 := Lb.len_tot (Lb.commas s)
  refine h.mono ?_
  rintro e w1 ⟨he, hw⟩
  have hown := own_built w w.heap.size 9 1 (Lb.commas s).length ((Lb.commas s).map fun t => .string ⟨t.toArray⟩) (Nat.le_refl _) (by simp) (by unfold maxLen; unfold Lb.commas at hl2 ⊢; simp at hl; omega)
  refine ⟨he, ?_, by rw [hw]; exact below_new w _⟩
  rw [hw]
  exact SliceIn.own hown (strs_rep _) RStr.size rfl (fun b hb => by simp only [Value.ownBlock, Option.some.injEq] at hb; omega)
theorem SliceIn.cellS {S : Nat → Prop} {w : World} {b o n c : Nat} {l : List (List UInt8)} (h : SliceIn S 1 RStr w (.slice (some ⟨b, o, none⟩) n c) l) {i : Nat} {x : List UInt8} (hx : l[i]? = some x) : w.cell? ⟨b, o + i, none⟩ = some (.string ⟨x.toArray⟩) := by
  obtain ⟨p, cap, hv, _, _, hat⟩ := h
  obtain ⟨b', off, vs, hp, _, _, hR, hc⟩ := hat i x hx
  simp only [Value.slice.injEq] at hv
  rw [hp] at hv
  simp only [Option.some.injEq, Addr.mk.injEq, and_true] at hv
  obtain ⟨⟨rfl, rfl⟩, _⟩ := hv
  have hR : vs = _ := hR
  subst hR
  have := hc 0 _ rfl
  rwa [Nat.mul_one, Nat.add_zero] at this
/-- four cells of the call's own -/
structure P4 (W : World) (g : Nat) (a b c d : Value) : Prop where
  c0 : W.cell? ⟨g, 0, none⟩ = some a
  c1 : W.cell? ⟨g, 1, none⟩ = some b
  c2 : W.cell? ⟨g, 2, none⟩ = some c
  c3 : W.cell? ⟨g, 3, none⟩ = some d
  f : ∀ i, W.frozen? ⟨g, i, none⟩ = false
  lt : g < W.heap.size
section
variable {W W' : World} {g : Nat} {a b c d : Value}
theorem P4.new (w : World) (t : TypeId) (a b c d : Value) : P4 (w.alloc (.cells #[a, b, c, d] t)) w.heap.size a b c d := by
  have h : ∀ (i : Nat) (u : Value), #[a, b, c, d][i]? = some u → (w.alloc (.cells #[a, b, c, d] t)).cell? ⟨w.heap.size, i, none⟩ = some u := by
    intro i u hu
    rw [cell_of_row _ _ _ _ _ _ (heap_alloc_new w _)]
    exact hu
  exact ⟨h 0 _ rfl, h 1 _ rfl, h 2 _ rfl, h 3 _ rfl, fun i => by simp, lt_alloc w _⟩
theorem P4.below (h : P4 W g a b c d) {B : Nat} (hb : Below B W W') (hg : g < B) : P4 W' g a b c d :=
  ⟨(hb.cell (p := ⟨g, 0, none⟩) hg).trans h.c0, (hb.cell (p := ⟨g, 1, none⟩) hg).trans h.c1, (hb.cell (p := ⟨g, 2, none⟩) hg).trans h.c2, (hb.cell (p := ⟨g, 3, none⟩) hg).trans h.c3,
   fun i => (World.frozen?_of_block (hb.block g hg)).trans (h.f i), Nat.lt_of_lt_of_le h.lt hb.size⟩
theorem P4.below' (h : P4 W g a b c d) (hb : Below W.heap.size W W') : P4 W' g a b c d := h.below hb h.lt
theorem P4.drew (h : P4 W g a b c d) : P4 W.drew g a b c d := ⟨h.c0, h.c1, h.c2, h.c3, h.f, h.lt⟩
theorem P4.other (h : P4 W g a b c d) {k : Nat} (hk : k ≠ g) (i : Nat) (v : Value) : P4 (W.setCell ⟨k, i, none⟩ v) g a b c d := by
  have e : ∀ j, (W.setCell ⟨k, i, none⟩ v).cell? ⟨g, j, none⟩ = W.cell? ⟨g, j, none⟩ := fun j => World.cell?_setCell_other _ _ _ _ (fun e => hk (by cases e; rfl))
  exact ⟨(e 0).trans h.c0, (e 1).trans h.c1, (e 2).trans h.c2, (e 3).trans h.c3, fun j => by simpa using h.f j, by simpa using h.lt⟩
theorem P4.set0 (h : P4 W g a b c d) (v : Value) : P4 (W.setCell ⟨g, 0, none⟩ v) g v b c d :=
  ⟨World.cell?_setCell_same _ _ _ h.c0, (World.cell?_setCell_other _ _ _ _ (by simp)).trans h.c1, (World.cell?_setCell_other _ _ _ _ (by simp)).trans h.c2, (World.cell?_setCell_other _ _ _ _ (by simp)).trans h.c3, fun j => by simpa using h.f j, by simpa using h.lt⟩
theorem P4.set1 (h : P4 W g a b c d) (v : Value) : P4 (W.setCell ⟨g, 1, none⟩ v) g a v c d :=
  ⟨(World.cell?_setCell_other _ _ _ _ (by simp)).trans h.c0, World.cell?_setCell_same _ _ _ h.c1, (World.cell?_setCell_other _ _ _ _ (by simp)).trans h.c2, (World.cell?_setCell_other _ _ _ _ (by simp)).trans h.c3, fun j => by simpa using h.f j, by simpa using h.lt⟩
theorem P4.set2 (h : P4 W g a b c d) (v : Value) : P4 (W.setCell ⟨g, 2, none⟩ v) g a b v d :=
  ⟨(World.cell?_setCell_other _ _ _ _ (by simp)).trans h.c0, (World.cell?_setCell_other _ _ _ _ (by simp)).trans h.c1, World.cell?_setCell_same _ _ _ h.c2, (World.cell?_setCell_other _ _ _ _ (by simp)).trans h.c3, fun j => by simpa using h.f j, by simpa using h.lt⟩
theorem P4.set3 (h : P4 W g a b c d) (v : Value) : P4 (W.setCell ⟨g, 3, none⟩ v) g a b c v :=
  ⟨(World.cell?_setCell_other _ _ _ _ (by simp)).trans h.c0, (World.cell?_setCell_other _ _ _ _ (by simp)).trans h.c1, (World.cell?_setCell_other _ _ _ _ (by simp)).trans h.c2, World.cell?_setCell_same _ _ _ h.c3, fun j => by simpa using h.f j, by simpa using h.lt⟩
theorem P4.all (h : P4 W g a b c d) (a' b' c' d' : Value) : P4 ((((W.setCell ⟨g, 0, none⟩ a').setCell ⟨g, 1, none⟩ b').setCell ⟨g, 2, none⟩ c').setCell ⟨g, 3, none⟩ d') g a' b' c' d' :=
  (((h.set0 a').set1 b').set2 c').set3 d'
end
theorem below4 {B g : Nat} {a0 w : World} (h : Below B a0 w) (hg : B ≤ g) (a b c d : Value) : Below B a0 ((((w.setCell ⟨g, 0, none⟩ a).setCell ⟨g, 1, none⟩ b).setCell ⟨g, 2, none⟩ c).setCell ⟨g, 3, none⟩ d) :=
  (((h.setCell (p := ⟨g, 0, none⟩) hg a).setCell (p := ⟨g, 1, none⟩) hg b).setCell (p := ⟨g, 2, none⟩) hg c).setCell (p := ⟨g, 3, none⟩) hg d
theorem SliceIn.set4 {α : Type} {S : Nat → Prop} {size : Nat} {R : α → List Value → Prop} {w : World} {v : Value} {xs : List α} (h : SliceIn S size R w v xs) {g : Nat} (hg : ∀ j, S j → j ≠ g) (i : Nat) (u : Value) : SliceIn S size R (w.setCell ⟨g, i, none⟩ u) v xs :=
  h.kept (fun _ h => h) (by simp [World.setCell]) (fun j hj _ => Below.heap_setCell _ _ _ _ (hg j hj)) (fun _ _ _ h => h)
theorem load_per (g : Nat) (a b c d : Value) (w : World) (h0 : w.cell? ⟨g, 0, none⟩ = some a) (h1 : w.cell? ⟨g, 1, none⟩ = some b) (h2 : w.cell? ⟨g, 2, none⟩ = some c) (h3 : w.cell? ⟨g, 3, none⟩ = some d) :
    (loadVar 83 ⟨g, 0, none⟩).run Tryz.prog w = .ok (.agg #[a, b, c, d]) w := by
  go_simp
theorem ret_one {P : Program} {fn : Func} {R : Ending → World → Prop} {a : Act} {w : World} {v : Value} {p : Tmp} {ty : TypeId} {ad : Addr} (h : fn.results = #[.cell p ty]) (hp : a.tmps.getD p undef = .pointer (some ad))
    (hl : (loadVar ty ad).run P w = .ok v w) (hd : a.defers = []) (hR : R (.returned v) w) : bodyPost P fn R .ret a w := by
  refine bodyPost_ret (v := v) ?_ hd hR
  have hp' : a.tmps[p]?.getD undef = .pointer (some ad) := by simpa using hp
  simp [results, h, hp', asAddr, hl]
def perV (p : Lb.Per) : Value := .agg #[.string ⟨p.first.toArray⟩, .string ⟨p.von.toArray⟩, .string ⟨p.last.toArray⟩, .string ⟨p.jr.toArray⟩]
end
end Go.Proofs.YtanbcokkfbidbaaGreatDoor
