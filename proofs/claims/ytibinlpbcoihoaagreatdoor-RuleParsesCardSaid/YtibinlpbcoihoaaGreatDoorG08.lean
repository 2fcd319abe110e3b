/- Plain facts on packages name's model: lengths, pieces at a byte. Plain Lean. name.Words: what stands between blanks. -/
import Derived.Test.YtibinlpbcoihoaaGreatDoorG02
import Derived.Lib.IndexBytes
import Derived.Test.YtibinlpbcoihoaaGreatDoorG07
import Derived.Lib.OthersKept
set_option linter.unusedSimpArgs false
set_option linter.unusedVariables false
namespace Go.Proofs.YtibinlpbcoihoaaGreatDoor.Lb
open Ent
def tot (l : List (List UInt8)) : Nat := (l.map fun s => s.length + 1).sum
theorem tot_nil : tot [] = 0 := rfl
theorem tot_cons (x : List UInt8) (l : List (List UInt8)) : tot (x :: l) = x.length + 1 + tot l := by simp [tot]
theorem tot_append (a b : List (List UInt8)) : tot (a ++ b) = tot a + tot b := by simp [tot]
theorem tot_take (l : List (List UInt8)) (k : Nat) : tot (l.take k) ≤ tot l := by
  conv => rhs; rw [← List.take_append_drop k l, tot_append]
  omega
theorem tot_drop (l : List (List UInt8)) (k : Nat) : tot (l.drop k) ≤ tot l := by
  conv => rhs; rw [← List.take_append_drop k l, tot_append]
  omega
theorem len_tot (l : List (List UInt8)) : l.length ≤ tot l := by
  induction l with
  | nil => exact Nat.le_refl _
  | cons x l ih => rw [tot_cons, List.length_cons]; omega
theorem mem_tot (l : List (List UInt8)) (x : List UInt8) (h : x ∈ l) : x.length + 1 ≤ tot l := by
  induction l with
  | nil => cases h
  | cons y l ih =>
    rw [tot_cons]
    cases h with
    | head => omega
    | tail _ h => have := ih h; omega
theorem lens_tot (l : List (List UInt8)) : Lib.lens l + l.length = tot l := by
  induction l with
  | nil => rfl
  | cons x l ih =>
    rw [tot_cons, List.length_cons, ← ih]
    simp [Lib.lens]; omega
theorem join_le (l : List (List UInt8)) : (join l).length ≤ tot l := by
  unfold join
  cases l with
  | nil => simp [Lib.join_nil]
  | cons x r =>
    rw [Lib.join_length]
    have h := lens_tot (x :: r)
    rw [List.length_cons] at h
    simp; omega
theorem tot_pieces (p : UInt8 → Bool) (s : List UInt8) : ∀ cur, tot (pieces p cur s) = cur.length + 1 + s.length := by
  induction s with
  | nil => intro cur; simp [pieces, tot_cons, tot_nil]
  | cons c r ih =>
    intro cur
    unfold pieces
    split
    · rw [tot_cons, ih]; simp; omega
    · rw [ih]; simp; omega
theorem tot_full (l : List (List UInt8)) : tot (full l) ≤ tot l := by
  induction l with
  | nil => exact Nat.le_refl _
  | cons x l ih =>
    unfold full at ih ⊢
    rw [List.filter_cons]
    split
    · rw [tot_cons, tot_cons]; omega
    · rw [tot_cons]; omega
theorem tot_words (s : List UInt8) : tot (words s) ≤ s.length + 1 := by
  unfold words
  have := tot_full (pieces blank [] s)
  rw [tot_pieces] at this
  simp at this; omega
/-! ### pieces at a byte -/
def consHead (b : UInt8) : List (List UInt8) → List (List UInt8)
  | [] => []
  | h :: t => (b :: h) :: t
theorem pieces_head (p : UInt8 → Bool) (b : UInt8) (s : List UInt8) : ∀ cur, pieces p (b :: cur) s = consHead b (pieces p cur s) := by
  induction s with
  | nil => intro cur; rfl
  | cons c r ih =>
    intro cur
    unfold pieces
    split
    · rfl
    · rw [List.cons_append, ih]
theorem index_cons_ne (b c : UInt8) (l : List UInt8) (h : b ≠ c) : Lib.index (b :: l) [c] = if Lib.index l [c] == -1 then -1 else Lib.index l [c] + 1 := by
  have hp : ([c] : List UInt8).isPrefixOf (b :: l) = false := by simp [List.isPrefixOf, Ne.symm h]
  rw [Lib.index, hp]; simp
theorem splitK_ne (b c : UInt8) (l : List UInt8) (h : b ≠ c) : ∀ k, Lib.splitK [c] 0 k (b :: l) = consHead b (Lib.splitK [c] 0 k l)
  | 0 => rfl
  | k + 1 => by
    have hix := index_cons_ne b c l h
    unfold Lib.splitK
    by_cases hm : Lib.index l [c] = -1
    · rw [hix, hm]; rfl
    · have hge := Lib.index_ge l [c]
      obtain ⟨j, hj⟩ : ∃ j : Nat, Lib.index l [c] = j := ⟨(Lib.index l [c]).toNat, by omega⟩
      have hix' : Lib.index (b :: l) [c] = ((j + 1 : Nat) : Int) := by rw [hix, if_neg (fun e => hm (beq_iff_eq.1 e)), hj]; omega
      have n1 : ¬ (((j + 1 : Nat) : Int) == -1) = true := fun e => by have := beq_iff_eq.1 e; omega
      have n2 : ¬ (((j : Nat) : Int) == -1) = true := fun e => by have := beq_iff_eq.1 e; omega
      rw [hix', hj, if_neg n1, if_neg n2]
      simp [consHead]
theorem splitK_eq (c : UInt8) (l : List UInt8) (k : Nat) : Lib.splitK [c] 0 (k + 1) (c :: l) = [] :: Lib.splitK [c] 0 k l := by
  have hix : Lib.index (c :: l) [c] = 0 := by rw [Lib.index]; simp [List.isPrefixOf]
  conv => lhs; unfold Lib.splitK
  rw [hix]
  simp
theorem split_pieces (c : UInt8) (s : List UInt8) : Lib.splitK [c] 0 (Lib.count s [c]) s = pieces (fun b => b == c) [] s := by
  induction s with
  | nil => rw [Lib.count_one]; rfl
  | cons b l ih =>
    by_cases h : b = c
    · subst h
      rw [Lib.count_cons_eq, Nat.add_comm, splitK_eq, ih]
      simp [pieces]
    · rw [Lib.count_cons_ne b c l h, splitK_ne b c l h, ih, ← pieces_head]
      conv => rhs; unfold pieces
      rw [if_neg (by simpa using h), List.nil_append]
theorem splitB_pieces (c : UInt8) (s : List UInt8) : Lib.splitB ⟨#[c]⟩ 0 (Lib.countB ⟨s.toArray⟩ ⟨#[c]⟩) ⟨s.toArray⟩ = (pieces (fun b => b == c) [] s).map fun t => ⟨t.toArray⟩ := by
  have h := Lib.splitB_data ⟨#[c]⟩ 0 (Lib.countB ⟨s.toArray⟩ ⟨#[c]⟩) ⟨s.toArray⟩
  have h2 : (Lib.splitB ⟨#[c]⟩ 0 (Lib.countB ⟨s.toArray⟩ ⟨#[c]⟩) ⟨s.toArray⟩).map (·.data.toList) = pieces (fun b => b == c) [] s := by
    rw [h, ← split_pieces]
  rw [← h2, List.map_map]
  conv => lhs; rw [← List.map_id (Lib.splitB _ _ _ _)]
  exact List.map_congr_left fun x _ => by cases x; rfl
theorem count_pieces (c : UInt8) (s : List UInt8) : Lib.countB ⟨s.toArray⟩ ⟨#[c]⟩ + 1 = (pieces (fun b => b == c) [] s).length := by
  rw [← Lib.splitB_all ⟨#[c]⟩ (Nat.le_refl 1) 0 _ ⟨s.toArray⟩ rfl, splitB_pieces, List.length_map]
theorem pieces_pos (p : UInt8 → Bool) (s : List UInt8) : ∀ cur, 0 < (pieces p cur s).length := by
  induction s with
  | nil => intro cur; simp [pieces]
  | cons c r ih => intro cur; unfold pieces; split; simp; exact ih _
/-! ### last -/
end Go.Proofs.YtibinlpbcoihoaaGreatDoor.Lb
set_option linter.unusedSimpArgs false
set_option linter.unusedVariables false
namespace Go.Proofs.YtibinlpbcoihoaaGreatDoor
open Go.RowKit Go.Lib
theorem pieces_adv (p : UInt8 → Bool) (cur s : List UInt8) (i : Nat) (x : UInt8) (hx : s[i]? = some x) (hp : p x = false) : Lb.pieces p cur (s.drop i) = Lb.pieces p (cur ++ [x]) (s.drop (i + 1)) := by
  obtain ⟨h1, h2⟩ := List.getElem?_eq_some_iff.1 hx
  rw [List.drop_eq_getElem_cons h1, h2]
  simp [Lb.pieces, hp]
theorem pieces_hit (p : UInt8 → Bool) (cur s : List UInt8) (i : Nat) (x : UInt8) (hx : s[i]? = some x) (hp : p x = true) : Lb.pieces p cur (s.drop i) = cur :: Lb.pieces p [] (s.drop (i + 1)) := by
  obtain ⟨h1, h2⟩ := List.getElem?_eq_some_iff.1 hx
  rw [List.drop_eq_getElem_cons h1, h2]
  simp [Lb.pieces, hp]
theorem cur_succ (s : List UInt8) (a i : Nat) (x : UInt8) (h : a ≤ i) (hx : s[i]? = some x) : (s.drop a).take (i + 1 - a) = (s.drop a).take (i - a) ++ [x] := by
  rw [Nat.succ_sub h, List.take_add_one, List.getElem?_drop, show a + (i - a) = i by omega, hx]
  rfl
theorem pieces_advs (p : UInt8 → Bool) (s : List UInt8) (a i : Nat) (h : a ≤ i) : ∀ n, i + n ≤ s.length → (∀ j y, i ≤ j → j < i + n → s[j]? = some y → p y = false) →
    Lb.pieces p ((s.drop a).take (i - a)) (s.drop i) = Lb.pieces p ((s.drop a).take (i + n - a)) (s.drop (i + n))
  | 0, _, _ => rfl
  | n + 1, hl, hn => by
    rw [pieces_advs p s a i h n (by omega) (fun j y h1 h2 => hn j y h1 (by omega))]
    have hx : s[i + n]? = some (s[i + n]'(by omega)) := List.getElem?_eq_getElem (by omega)
    rw [pieces_adv p _ s (i + n) _ hx (hn _ _ (by omega) (by omega) hx), ← cur_succ s a (i + n) _ (by omega) hx]
    rfl
theorem own_iter {base e size n k pos : Nat} {W : World} {v : Value} {xs : List Value} (h : W.ownsRow base e size v n xs) (hk : k < base) (s : ByteArray) : (W.iterAt k s pos).ownsRow base e size v n xs := by
  refine ⟨h.1, ?_⟩
  rcases h.2 with h2 | ⟨g, cap, cur, h2, h3, h4, h5⟩
  · exact .inl h2
  · exact .inr ⟨g, cap, cur, h2, h3, by rw [iterAt_other W k g s pos (by omega)]; exact h4, h5⟩
theorem blank_wide (y : UInt8) (h : 128 ≤ y.toNat) : Lb.blank y = false := by
  unfold Lb.blank
  have h1 : (y == 32) = false := by rw [beq_eq_false_iff_ne]; rintro rfl; simp at h
  have h2 : (y == 9) = false := by rw [beq_eq_false_iff_ne]; rintro rfl; simp at h
  have h3 : (y == 10) = false := by rw [beq_eq_false_iff_ne]; rintro rfl; simp at h
  rw [h1, h2, h3]; rfl
theorem blank_cases (x : UInt8) : (Lb.blank x = true ∧ (x = 32 ∨ x = 9 ∨ x = 10)) ∨ (Lb.blank x = false ∧ ((x.toNat : Int) == 32) = false ∧ ((x.toNat : Int) == 9) = false ∧ ((x.toNat : Int) == 10) = false) := by
  by_cases h1 : x = 32
  · exact .inl ⟨by rw [h1]; rfl, .inl h1⟩
  · by_cases h2 : x = 9
    · exact .inl ⟨by rw [h2]; rfl, .inr (.inl h2)⟩
    · by_cases h3 : x = 10
      · exact .inl ⟨by rw [h3]; rfl, .inr (.inr h3)⟩
      · right
        have g : ∀ c : UInt8, x ≠ c → ((x.toNat : Int) == (c.toNat : Int)) = false := fun c hc => by rw [u8_beq, beq_eq_false_iff_ne]; exact hc
        refine ⟨?_, g 32 h1, g 9 h2, g 10 h3⟩
        unfold Lb.blank
        rw [beq_eq_false_iff_ne.2 h1, beq_eq_false_iff_ne.2 h2, beq_eq_false_iff_ne.2 h3]; rfl
set_option maxRecDepth 100000 in
set_option maxHeartbeats 3200000 in
theorem nm_Words (s : List UInt8) (w : World) (hs : s.length ≤ 1000000) :
    Calls Tryz.prog 22 #[.string ⟨s.toArray⟩] w fun e w' => (∃ g cap, e = .returned (.slice (some ⟨g, 0, none⟩) (Lb.words s).length cap) ∧ 0 < cap ∧ SliceIn (fun j => w.heap.size ≤ j) 1 RStr w' (.slice (some ⟨g, 0, none⟩) (Lb.words s).length cap) (Lb.words s)) ∧ Below w.heap.size w w' := by
  obtain ⟨i0, hi, hz0, hz1, hz2⟩ := info_parts str_info
  have Hi := Lib.hid hi; have Hz0 := Lib.hid hz0; have Hz1 := Lib.hid hz1; have Hz2 := Lib.hid hz2; clear hi hz0 hz1 hz2
  have hsz : (⟨s.toArray⟩ : ByteArray).size = s.length := by show s.toArray.size = _; simp
  have HszS := Lib.hid hsz
  clear hsz
  go_enter Tryz.func22, Tryz.ntmps22
  go_wp2_with fail
  go_loopw [3, 4] (fun ov fv wr => ∃ (i a : Nat) (out : List (List UInt8)), a ≤ i ∧ i ≤ s.length ∧ fv = .int .i64 (a : Int) ∧ OwnL (w.heap.size + 1) 9 1 RStr wr ov out ∧ wr.heap[w.heap.size]? = some (.stringIter ⟨s.toArray⟩ i) ∧ Below w.heap.size w wr ∧ out.length ≤ a ∧ out ++ Lb.pieces Lb.blank ((s.drop a).take (i - a)) (s.drop i) = Lb.pieces Lb.blank [] s) (fun _ _ wr => s.length - wr.iterPos w.heap.size)
  case atStart => exact ⟨0, 0, [], Nat.le_refl _, Nat.zero_le _, rfl, OwnL.nil _ _ _ _ _, World.iter_heap w _ _, below_new w _, Nat.le_refl _, rfl⟩
  case round =>
    obtain ⟨i, a, out, hai, hi, rfl, hO, hk, hb, hol, hP⟩ := hrel
    have hlt : w.heap.size < wr.heap.size := by
      rcases Nat.lt_or_ge w.heap.size wr.heap.size with h | h
      · exact h
      · rw [Array.getElem?_eq_none h] at hk; cases hk
    have hpos : wr.iterPos w.heap.size = i := by unfold World.iterPos; rw [hk]
    have HP := Lib.hid hP; have Hb := Lib.hid hb; have Hk := Lib.hid hk; have Hpos := Lib.hid hpos; have HO := Lib.hid hO
    clear hP hb hk hpos hO
    have hai' : (a : Int) ≤ (i : Int) := by omega
    have hil' : (i : Int) ≤ (s.length : Int) := by omega
    have hex : (⟨s.toArray⟩ : ByteArray).extract a i = ⟨((s.drop a).take (i - a)).toArray⟩ := extract_any s a i
    by_cases hil : i < s.length
    · obtain ⟨x, hx⟩ : ∃ x, s[i]? = some x := ⟨_, List.getElem?_eq_getElem hil⟩
      by_cases ha : x.toNat < 128
      · have he : (⟨s.toArray⟩ : ByteArray)[i]'(by rw [HszS.out]; exact hil) = x := by
          obtain ⟨_, e⟩ := List.getElem?_eq_some_iff.1 hx
          exact e
        have hnx := fun ty => run_next_ascii_at (P := Tryz.prog) wr w.heap.size ⟨s.toArray⟩ i ty Hk.out (by rw [HszS.out]; exact hil) (by rw [he]; exact ha)
        rw [he] at hnx
        have hb2 := below_iterAt Hb.out (k := w.heap.size) (Nat.le_refl _) ⟨s.toArray⟩ (i + 1)
        have hk2 := iterAt_heap wr w.heap.size ⟨s.toArray⟩ i (i + 1) Hk.out
        have hz2 := iterAt_size wr w.heap.size ⟨s.toArray⟩ (i + 1)
        obtain ⟨fl, hown, hrep⟩ := HO.out
        have hown2 := own_iter (pos := i + 1) hown (Nat.lt_succ_self _) ⟨s.toArray⟩
        have Hb2 := Lib.hid hb2; have Hk2 := Lib.hid hk2; have Hx := Lib.hid hx; have Hz := Lib.hid hz2; have Hown := Lib.hid hown2; have Hrep := Lib.hid hrep
        clear hb2 hk2 hx he hown hown2 hrep hz2
        obtain ⟨i1, hi1⟩ : ∃ i1, i1 = i + 1 := ⟨_, rfl⟩
        have hwi : IntKind.i64.wrap ((i : Int) + 1) = (i1 : Int) := by rw [IntWalk.i64_in _ (by omega)]; omega
        rw [← hi1] at Hb2 Hk2 Hz Hown hnx
        have Hi1 := Lib.hid hi1
        clear hi1
        rcases blank_cases x with ⟨hbl, hx3⟩ | ⟨hbl, q1, q2, q3⟩
        · have hst := pieces_hit Lb.blank ((s.drop a).take (i - a)) s i x Hx.out hbl
          have Hst := Lib.hid hst; have Hbl := Lib.hid hbl
          clear hst hbl
          have Hlt := Lib.hid hlt; have Hai := Lib.hid hai; have Hil := Lib.hid hil; have Hol := Lib.hid hol; have Hii := Lib.hid hi
          have hn47 : (out.length + 1) * 16 ≤ 140737488355328 := by omega
          have hnm : out.length + 1 ≤ 9223372036854775807 := by omega
          have Hsz : w.heap.size + 1 ≤ (wr.iterAt w.heap.size ⟨s.toArray⟩ i1).heap.size := by rw [Hz.out]; exact hlt
          generalize wr.iterAt w.heap.size ⟨s.toArray⟩ i1 = wq at *
          have HSZ := Lib.hid Hsz; have Hn47 := Lib.hid hn47; have Hnm := Lib.hid hnm
          clear hlt hai hil hol hi Hsz hn47 hnm
          rcases hx3 with rfl | rfl | rfl
          · have HK9 : w.heap.size < wq.heap.size := HSZ.out
            have HK9 := Lib.hid HK9
            go_wp2_with (at_builtin; go_loud (refine wpList_append1 rfl (.tmp 23) (.tmp 28) 41 rfl (w.heap.size + 1) 9 i0 (.string ⟨#[]⟩) 1 16 Tryz.underlying41 Hi.out Hz0.out Hz1.out Hz2.out rfl (by decide) _ _ _ Hown.out rfl [.string ⟨((s.drop a).take (i - a)).toArray⟩] rfl (by simp) rfl (by simp [Value.oneCell']) Hnm.out Hn47.out HSZ.out ?_); intro v2 w2 own2 g2 at2)
            go_roundw
            case rel => exact ⟨i1, i1, out ++ [(s.drop a).take (i - a)], Nat.le_refl _, by have := Hil.out; have := Hi1.out; omega, by go_num, OwnL.more Hrep.out rfl own2, ((g2.block _ HK9.out (fun e => by have := (Hown.out.lt _ e.symm).1; omega)).trans Hk2.out), Hb2.out.grown g2 Hb2.out.size (fun q e => Nat.le_of_succ_le (Hown.out.lt q e).1), by have := Hol.out; have := Hai.out; have := Hi1.out; simp; omega, by rw [Nat.sub_self, List.take_zero, List.append_assoc, List.singleton_append, ← HP.out, Hst.out, Hi1.out]⟩
            case measure =>
              have h3 : w2.iterPos w.heap.size = i1 := by unfold World.iterPos; rw [(g2.block _ HK9.out (fun e => by have := (Hown.out.lt _ e.symm).1; omega)).trans Hk2.out]
              have := Hi1.out; have := Hil.out
              rw [h3, Hpos.out]; omega
          · have HK9 : w.heap.size < wq.heap.size := HSZ.out
            have HK9 := Lib.hid HK9
            go_wp2_with (at_builtin; go_loud (refine wpList_append1 rfl (.tmp 23) (.tmp 28) 41 rfl (w.heap.size + 1) 9 i0 (.string ⟨#[]⟩) 1 16 Tryz.underlying41 Hi.out Hz0.out Hz1.out Hz2.out rfl (by decide) _ _ _ Hown.out rfl [.string ⟨((s.drop a).take (i - a)).toArray⟩] rfl (by simp) rfl (by simp [Value.oneCell']) Hnm.out Hn47.out HSZ.out ?_); intro v2 w2 own2 g2 at2)
            go_roundw
            case rel => exact ⟨i1, i1, out ++ [(s.drop a).take (i - a)], Nat.le_refl _, by have := Hil.out; have := Hi1.out; omega, by go_num, OwnL.more Hrep.out rfl own2, ((g2.block _ HK9.out (fun e => by have := (Hown.out.lt _ e.symm).1; omega)).trans Hk2.out), Hb2.out.grown g2 Hb2.out.size (fun q e => Nat.le_of_succ_le (Hown.out.lt q e).1), by have := Hol.out; have := Hai.out; have := Hi1.out; simp; omega, by rw [Nat.sub_self, List.take_zero, List.append_assoc, List.singleton_append, ← HP.out, Hst.out, Hi1.out]⟩
            case measure =>
              have h3 : w2.iterPos w.heap.size = i1 := by unfold World.iterPos; rw [(g2.block _ HK9.out (fun e => by have := (Hown.out.lt _ e.symm).1; omega)).trans Hk2.out]
              have := Hi1.out; have := Hil.out
              rw [h3, Hpos.out]; omega
          · have HK9 : w.heap.size < wq.heap.size := HSZ.out
            have HK9 := Lib.hid HK9
            go_wp2_with (at_builtin; go_loud (refine wpList_append1 rfl (.tmp 23) (.tmp 28) 41 rfl (w.heap.size + 1) 9 i0 (.string ⟨#[]⟩) 1 16 Tryz.underlying41 Hi.out Hz0.out Hz1.out Hz2.out rfl (by decide) _ _ _ Hown.out rfl [.string ⟨((s.drop a).take (i - a)).toArray⟩] rfl (by simp) rfl (by simp [Value.oneCell']) Hnm.out Hn47.out HSZ.out ?_); intro v2 w2 own2 g2 at2)
            go_roundw
            case rel => exact ⟨i1, i1, out ++ [(s.drop a).take (i - a)], Nat.le_refl _, by have := Hil.out; have := Hi1.out; omega, by go_num, OwnL.more Hrep.out rfl own2, ((g2.block _ HK9.out (fun e => by have := (Hown.out.lt _ e.symm).1; omega)).trans Hk2.out), Hb2.out.grown g2 Hb2.out.size (fun q e => Nat.le_of_succ_le (Hown.out.lt q e).1), by have := Hol.out; have := Hai.out; have := Hi1.out; simp; omega, by rw [Nat.sub_self, List.take_zero, List.append_assoc, List.singleton_append, ← HP.out, Hst.out, Hi1.out]⟩
            case measure =>
              have h3 : w2.iterPos w.heap.size = i1 := by unfold World.iterPos; rw [(g2.block _ HK9.out (fun e => by have := (Hown.out.lt _ e.symm).1; omega)).trans Hk2.out]
              have := Hi1.out; have := Hil.out
              rw [h3, Hpos.out]; omega
        · have hst : Lb.pieces Lb.blank ((s.drop a).take (i - a)) (s.drop i) = Lb.pieces Lb.blank ((s.drop a).take (i1 - a)) (s.drop i1) := by
            rw [pieces_adv Lb.blank _ s i x Hx.out hbl, Hi1.out, cur_succ s a i x hai Hx.out]
          have Hst := Lib.hid hst
          clear hst hbl
          have Hlt := Lib.hid hlt; have Hai := Lib.hid hai; have Hil := Lib.hid hil; have Hol := Lib.hid hol; have Hii := Lib.hid hi
          clear hlt hai hil hol hi
          go_wp2_with fail
          go_roundw
          case rel => exact ⟨i1, a, out, by have := Hai.out; have := Hi1.out; omega, by have := Hil.out; have := Hi1.out; omega, rfl, ⟨fl, Hown.out, Hrep.out⟩, Hk2.out, Hb2.out, Hol.out, by rw [← Hst.out]; exact HP.out⟩
          case measure =>
            have h3 : (wr.iterAt w.heap.size ⟨s.toArray⟩ i1).iterPos w.heap.size = i1 := by unfold World.iterPos; rw [Hk2.out]
            have := Hi1.out; have := Hil.out
            rw [h3, Hpos.out]; omega
      · obtain ⟨r, n, hd, r1, r2, r3, n1, n2, n3⟩ := decode_wide s i x hx (by omega)
        have hnx := fun ty => run_next_any_at (P := Tryz.prog) wr w.heap.size ⟨s.toArray⟩ i ty Hk.out (by rw [HszS.out]; exact hil)
        rw [hd] at hnx
        dsimp only at hnx
        have hb2 := below_iterAt Hb.out (k := w.heap.size) (Nat.le_refl _) ⟨s.toArray⟩ (i + n)
        have hk2 := iterAt_heap wr w.heap.size ⟨s.toArray⟩ i (i + n) Hk.out
        obtain ⟨fl, hown, hrep⟩ := HO.out
        have hown2 := own_iter (pos := i + n) hown (Nat.lt_succ_self _) ⟨s.toArray⟩
        have hst := pieces_advs Lb.blank s a i hai n n2 (fun j y h1 h2 h3 => blank_wide y (n3 j y h1 h2 h3))
        have q1 : ((r : Int) == 32) = false := by rw [beq_eq_false_iff_ne]; omega
        have q2 : ((r : Int) == 9) = false := by rw [beq_eq_false_iff_ne]; omega
        have q3 : ((r : Int) == 10) = false := by rw [beq_eq_false_iff_ne]; omega
        have Hb2 := Lib.hid hb2; have Hk2 := Lib.hid hk2; have Hown := Lib.hid hown2; have Hrep := Lib.hid hrep; have Hst := Lib.hid hst
        have Hai := Lib.hid hai; have Hn1 := Lib.hid n1; have Hn2 := Lib.hid n2; have Hol := Lib.hid hol; have Hii := Lib.hid hi
        clear hb2 hk2 hx hown hown2 hrep hst n1 n2 n3 r1 r2 r3 hd hlt hai hil hol hi ha
        go_wp2_with fail
        go_roundw
        case rel => exact ⟨i + n, a, out, by have := Hai.out; omega, Hn2.out, rfl, ⟨fl, Hown.out, Hrep.out⟩, Hk2.out, Hb2.out, Hol.out, by rw [← Hst.out]; exact HP.out⟩
        case measure =>
          have h3 : (wr.iterAt w.heap.size ⟨s.toArray⟩ (i + n)).iterPos w.heap.size = i + n := by unfold World.iterPos; rw [Hk2.out]
          have := Hn1.out; have := Hn2.out
          rw [h3, Hpos.out]; omega
    · have hnx := fun ty => run_next_end_at (P := Tryz.prog) wr w.heap.size ⟨s.toArray⟩ i ty Hk.out (by rw [HszS.out]; exact hil)
      obtain rfl : i = s.length := by omega
      obtain ⟨fl, hown, hrep⟩ := HO.out
      have Hown := Lib.hid hown
      have hfin : out ++ [s.drop a] = Lb.pieces Lb.blank [] s := by
        have h := HP.out
        rw [List.drop_length, List.take_of_length_le (by rw [List.length_drop]; exact Nat.le_refl _)] at h
        exact h
      have hex2 := extract_end s a
      have Hsz : w.heap.size + 1 ≤ wr.heap.size := hlt
      have HSZ := Lib.hid Hsz; have Hfin := Lib.hid hfin; have Hrep := Lib.hid hrep
      have hn47 : (out.length + 1) * 16 ≤ 140737488355328 := by omega
      have hnm : out.length + 1 ≤ 9223372036854775807 := by omega
      have Hn47 := Lib.hid hn47; have Hnm := Lib.hid hnm
      clear hex hown hfin hrep Hsz hn47 hnm hlt hol hi hai
      go_upto_region 10 with (at_builtin; go_loud (refine wpList_append1 rfl (.tmp 32) (.tmp 36) 41 rfl (w.heap.size + 1) 9 i0 (.string ⟨#[]⟩) 1 16 Tryz.underlying41 Hi.out Hz0.out Hz1.out Hz2.out rfl (by decide) _ _ _ Hown.out rfl [.string ⟨(s.drop a).toArray⟩] rfl (by simp) rfl (by simp [Value.oneCell']) Hnm.out Hn47.out HSZ.out ?_); intro v2 w2 own2 g2 at2)
      have HO2 : OwnL (w.heap.size + 1) 9 1 RStr w2 v2 (out ++ [s.drop a]) := OwnL.more Hrep.out rfl own2
      rw [Hfin.out] at HO2
      obtain ⟨p2, cap2, hv2, hp2, hq2⟩ := own2.form (Nat.succ_pos _)
      subst hv2
      have hb3 := Hb.out.grown g2 Hb.out.size (fun q e => Nat.le_of_succ_le (Hown.out.lt q e).1)
      have HB3 := Lib.hid hb3; have HO3 := Lib.hid HO2
      have hlen3 : out.length + 1 = (Lb.pieces Lb.blank [] s).length := by rw [← Hfin.out]; simp
      have Hlen3 := Lib.hid hlen3
      clear HO2 hb3 own2 g2 at2 hp2 hq2 hlen3
      go_wp2_with (go_at_call 39; refine (nm_del_words1 _ _ _ _ _ _ HO3.out Hlen3.out).mono ?_; rintro e w9 ⟨⟨v9, rfl, hv9, hS9⟩, hb9⟩; have Hv9 := Lib.hid hv9; clear hv9; have HS9 := Lib.hid hS9; have Hb9 := Lib.hid hb9; clear hS9 hb9)
      go_ret
      have hv9 := Hv9.out
      subst hv9
      have hcp : 0 < cap2 := by
        obtain ⟨p3, c3, e3, h3, _⟩ := HO3.out.slice RStr.size (fun _ => True) (fun _ _ => trivial)
        simp only [Value.slice.injEq] at e3
        have := Lb.pieces_pos Lb.blank s []
        omega
      exact ⟨⟨_, _, rfl, hcp, HS9.out.kept (fun _ h => by omega) (Nat.le_refl _) (fun _ _ _ => rfl) (fun _ _ _ h => h)⟩, HB3.out.trans (Hb9.out.mono (Nat.le_succ _))⟩
end Go.Proofs.YtibinlpbcoihoaaGreatDoor
