/- The walk of stetref22.Parse. The walks of package side (layer 10), eighth part: what one record's parts are taken as. -/
import Derived.Test.YtibinlpbcoihoaaGreatDoorG18
import Derived.Test.YtibinlpbcoihoaaGreatDoorG10
set_option linter.unusedSimpArgs false
set_option linter.unusedVariables false
namespace Go.Proofs.YtibinlpbcoihoaaGreatDoor
open Go.RowKit
namespace Ru
theorem pieces_each (p : UInt8 → Bool) : ∀ (t cur : List UInt8), ∀ x ∈ Lb.pieces p cur t, x.length ≤ cur.length + t.length
  | [], cur, x, hx => by rw [Lb.pieces, List.mem_singleton] at hx; rw [hx]; simp
  | c :: t, cur, x, hx => by
    rw [Lb.pieces] at hx
    cases hc : p c with
    | true =>
      rw [hc] at hx
      simp only [if_true, List.mem_cons] at hx
      rcases hx with rfl | hx
      · omega
      · have := pieces_each p t [] x hx; simp at this ⊢; omega
    | false =>
      rw [hc] at hx
      simp only [Bool.false_eq_true, if_false] at hx
      have := pieces_each p t (cur ++ [c]) x hx
      simp at this ⊢; omega
theorem lines_each (s x : List UInt8) (h : x ∈ lines s) : x.length ≤ s.length := by simpa using pieces_each _ s [] x h
theorem pieces_many (p : UInt8 → Bool) : ∀ (t cur : List UInt8), (Lb.pieces p cur t).length ≤ t.length + 1
  | [], cur => by simp [Lb.pieces]
  | c :: t, cur => by
    rw [Lb.pieces]
    cases p c with
    | true => simp only [if_true, List.length_cons]; have := pieces_many p t []; omega
    | false => simp only [Bool.false_eq_true, if_false, List.length_cons]; have := pieces_many p t (cur ++ [c]); omega
theorem lines_many (s : List UInt8) : (lines s).length ≤ s.length + 1 := pieces_many _ s []
theorem words_many (s : List UInt8) : (Lb.words s).length ≤ s.length + 1 := Nat.le_trans (List.length_filter_le _ _) (pieces_many _ s [])
theorem words_each (s x : List UInt8) (h : x ∈ Lb.words s) : x.length ≤ s.length ∧ x ≠ [] := by
  unfold Lb.words Lb.full at h
  have h := List.mem_filter.1 h
  refine ⟨by simpa using pieces_each _ s [] x h.1, fun e => ?_⟩
  rw [e] at h; simp at h
theorem one_len {w : List (List UInt8)} {x : Rl} {m : Nat} (h : one w = some x) (hw : ∀ u ∈ w, u.length ≤ m) : x.a.length ≤ m ∧ x.b.length ≤ m := by
  have hg : ∀ i, (w.getD i []).length ≤ m := by
    intro i
    rcases Nat.lt_or_ge i w.length with hi | hi
    · rw [List.getD_eq_getElem?_getD, List.getElem?_eq_getElem hi]; exact hw _ (List.getElem_mem hi)
    · rw [List.getD_eq_getElem?_getD, List.getElem?_eq_none hi]; simp
  unfold one at h
  dsimp only at h
  split at h
  · split at h
    · cases h; exact ⟨hg 1, hg 2⟩
    · cases h
  · split at h
    · cases h
    · split at h
      · cases h; exact ⟨hg 1, by simp⟩
      · cases h
theorem skip_nil : skip [] = true := rfl
theorem skip_cons (c : UInt8) (t : List UInt8) (r : List (List UInt8)) : skip ((c :: t) :: r) = (c == 35) := by
  unfold skip
  show (false || (some c == some 35)) = (c == 35)
  rw [Bool.false_or]; rfl
/-- how the reading goes on by one line -/
theorem parseL_step (L : List (List UInt8)) (k : Nat) (ln : List UInt8) (acc : List Rl) (h : L[k]? = some ln) (ha : parseL [] (L.take k) = some acc) :
    (skip (Lb.words ln) = true → parseL [] (L.take (k + 1)) = some acc) ∧
    (skip (Lb.words ln) = false → ∀ x, one (Lb.words ln) = some x → parseL [] (L.take (k + 1)) = some (acc ++ [x])) ∧
    (skip (Lb.words ln) = false → one (Lb.words ln) = none → parseL [] L = none) := by
  have e : parseL [] (L.take (k + 1)) = parseL acc [ln] := by
    rw [List.take_add_one, h, parseL_append, ha]; rfl
  refine ⟨fun hs => ?_, fun hs x hx => ?_, fun hs hn => ?_⟩
  · rw [e]; unfold parseL; rw [if_pos hs]; rfl
  · rw [e]; unfold parseL; rw [if_neg (by rw [hs]; simp), hx]; rfl
  · have e2 : parseL [] (L.take (k + 1)) = none := by rw [e]; unfold parseL; rw [if_neg (by rw [hs]; simp), hn]
    rw [← List.take_append_drop (k + 1) L, parseL_append, e2]; rfl
theorem parse_at {s : List UInt8} {l : List Rl} (h : parseL [] (lines s) = some l) : parse s = if right l then some l else none := by unfold parse; rw [h]
theorem parse_bad {s : List UInt8} (h : parseL [] (lines s) = none) : parse s = none := by unfold parse; rw [h]
end Ru
/-- what 'Parse' tells -/
def PPost (t : TypeId) (s : List UInt8) (w : World) (e : Ending) (w' : World) : Prop :=
  Below w.heap.size w w' ∧ match Ru.parse s with
  | some l => ∃ p c, e = .returned (.tuple #[.slice p l.length c, .int .i64 0]) ∧ OwnL w.heap.size t 3 RRl w' (.slice p l.length c) l
  | none => e = .returned (.tuple #[.slice none 0 0, .int .i64 16])
theorem PPost.bad {t : TypeId} {s : List UInt8} {w w' : World} {e : Ending} (h : Ru.parse s = none) (he : e = .returned (.tuple #[.slice none 0 0, .int .i64 16])) (hb : Below w.heap.size w w') : PPost t s w e w' := by
  unfold PPost; rw [h]; exact ⟨hb, he⟩
theorem PPost.ok {t : TypeId} {s : List UInt8} {w w' : World} {e : Ending} {l : List Ru.Rl} (h : Ru.parse s = some l) {p : Option Addr} {c : Nat} (he : e = .returned (.tuple #[.slice p l.length c, .int .i64 0])) (hO : OwnL w.heap.size t 3 RRl w' (.slice p l.length c) l) (hb : Below w.heap.size w w') : PPost t s w e w' := by
  unfold PPost; rw [h]; exact ⟨hb, p, c, he, hO⟩
set_option maxRecDepth 100000 in
set_option maxHeartbeats 3200000 in
theorem ref22_parse (s : List UInt8) (w : World) (hs : s.length ≤ 9000) :
    Calls Tryz.prog 8 #[.string ⟨s.toArray⟩] w fun e w' => PPost 38 s w e w' := by
  obtain ⟨i0, hi, hz0, hz1, hz2⟩ := info_parts rrule_info
  have Hi := Lib.hid hi; have Hz0 := Lib.hid hz0; have Hz1 := Lib.hid hz1; have Hz2 := Lib.hid hz2; clear hi hz0 hz1 hz2
  have Hs := Lib.hid hs; clear hs
  obtain ⟨L, hL⟩ : ∃ L, L = Ru.lines s := ⟨_, rfl⟩
  have HL := Lib.hid hL
  have HLl := Lib.hid (show L.length ≤ 9001 by rw [hL]; have := Ru.lines_many s; have := Hs.out; omega)
  have HLe := Lib.hid (show ∀ x ∈ L, x.length ≤ 9000 by rw [hL]; intro x hx; have := Ru.lines_each s x hx; have := Hs.out; omega)
  have hli := ref22_lines s w (by have := Hs.out; omega)
  rw [← hL] at hli
  have Hli := Lib.hid hli
  clear hL hli
  go_enter Tryz.func8, Tryz.ntmps8
  go_wp2_with (go_at_call 25; refine Hli.out.mono ?_; rintro e w1 ⟨gl, cl, rfl, hO1, hb1⟩; have HW := Lib.hid (hO1.slice RStr.size (fun _ => True) (fun _ _ => trivial)); have Hb1 := Lib.hid hb1; clear hO1 hb1)
  have hO := Lib.hid (OwnL.made w1.heap.size 38 3 RRl w1 (Nat.le_refl _))
  have hB := Lib.hid (below_new w1 (.cells #[] 38))
  go_loopw [5, 6] (fun ov iv wr => ∃ (k g c : Nat) (A : List Ru.Rl), k ≤ L.length ∧ iv = .int .i64 (k : Int) ∧ ov = .slice (some ⟨g, 0, none⟩) A.length c ∧ OwnL w1.heap.size 38 3 RRl wr ov A ∧ Ru.parseL [] (L.take k) = some A ∧ A.length ≤ k ∧ (∀ x ∈ A, x.a.length ≤ 9000 ∧ x.b.length ≤ 9000) ∧ Below w1.heap.size w1 wr) (fun _ iv _ => L.length - (intOf iv).toNat)
  case atStart => exact ⟨0, _, _, [], Nat.zero_le _, rfl, rfl, hO.out, rfl, Nat.zero_le _, fun x hx => by simp at hx, hB.out⟩
  case round =>
    clear hO hB
    obtain ⟨k, g, c, A, hk, rfl, rfl, hO, hA, hAk, hAe, hb⟩ := hrel
    by_cases hlt : k < L.length
    · obtain ⟨x, hx⟩ : ∃ x, L[k]? = some x := ⟨_, List.getElem?_eq_getElem hlt⟩
      have hlt' : (k : Int) < (L.length : Int) := by omega
      have Hwk := Lib.hid (f2_w1 k (by have := HLl.out; omega))
      obtain ⟨st1, st2, st3⟩ := Ru.parseL_step L k x A hx hA
      have hxl := HLe.out x (List.mem_of_getElem? hx)
      have hww := ref16_words x wr (by omega)
      obtain ⟨ws, hws⟩ : ∃ ws, ws = Lb.words x := ⟨_, rfl⟩
      have hwe : ∀ u ∈ ws, u.length ≤ 9000 ∧ u ≠ [] := by rw [hws]; intro u hu; have := Ru.words_each x u hu; exact ⟨by omega, this.2⟩
      have hwl : ws.length ≤ 9001 := by rw [hws]; have := Ru.words_many x; omega
      rw [← hws] at st1 st2 st3 hww
      have ce : wr.cell? ⟨gl, k, none⟩ = some (.string ⟨x.toArray⟩) := by have := (HW.out.below hb (fun _ _ _ h => h)).cellS hx; simpa using this
      have Hst1 := Lib.hid st1; have Hst2 := Lib.hid st2; have Hst3 := Lib.hid st3; have Hww := Lib.hid hww; have Hwe := Lib.hid hwe; have Hwl := Lib.hid hwl
      have HO := Lib.hid hO; have HAk := Lib.hid hAk; have HAe := Lib.hid hAe; have Hb := Lib.hid hb; have Hlt := Lib.hid hlt
      clear st1 st2 st3 hxl hww hws hwe hwl hO hA hAk hAe hb hlt hk hx
      go_upto_region 6 with (go_at_call 26; refine Hww.out.mono ?_; rintro e w2 ⟨gw, cw, rfl, hO2, hb2⟩; have HWs := Lib.hid (hO2.slice RStr.size (fun _ => True) (fun _ _ => trivial)); have Hb2 := Lib.hid (Hb.out.trans (hb2.mono Hb.out.size)); have HO2 := Lib.hid (HO.out.below hb2); clear hO2 hb2)
      clear ce
      cases ws with
      | nil =>
        have Hst := Lib.hid (Hst1.out rfl)
        go_wp2_with fail
        go_roundw
        case rel => exact ⟨k + 1, g, c, A, by have := Hlt.out; omega, by first | rfl | rw [Hwk.out], rfl, HO2.out, Hst.out, by have := HAk.out; omega, HAe.out, Hb2.out⟩
        case measure => have := Hlt.out; (try rw [Hwk.out]); simp [intOf]; omega
      | cons w0 r =>
        obtain ⟨c0, t, rfl⟩ : ∃ c0 t, w0 = c0 :: t := by
          cases w0 with
          | nil => exact absurd rfl (Hwe.out [] (by simp)).2
          | cons a b => exact ⟨a, b, rfl⟩
        have hsk := Ru.skip_cons c0 t r
        rw [hsk] at Hst1 Hst2 Hst3
        obtain ⟨n, hn⟩ : ∃ n, n = r.length + 1 := ⟨_, rfl⟩
        have ce : w2.cell? ⟨gw, 0, none⟩ = some (.string ⟨(c0 :: t).toArray⟩) := by have := HWs.out.cellS (i := 0) rfl; simpa using this
        have hby := byte_at (c0 :: t) 0 c0 rfl
        have hn0 : ((n : Int) == 0) = false := by rw [beq_eq_false_iff_ne]; omega
        have hnp : 0 < n := by omega
        have hel : (0 : Int) < ((c0 :: t).length : Int) := by simp
        rw [show ((c0 :: t) :: r).length = n by rw [hn]; rfl] at HWs ⊢
        have Hn := Lib.hid hn
        clear hn hsk
        cases h35 : (c0 == 35) with
        | true =>
          have Hst := Lib.hid (Hst1.out h35)
          have hd : (c0.toNat : Int) = 35 := u8_eq c0 35 (by decide) h35
          clear h35
          go_wp2_with fail
          go_roundw
          case rel => exact ⟨k + 1, g, c, A, by have := Hlt.out; omega, by first | rfl | rw [Hwk.out], rfl, HO2.out, Hst.out, by have := HAk.out; omega, HAe.out, Hb2.out⟩
          case measure => have := Hlt.out; (try rw [Hwk.out]); simp [intOf]; omega
        | false =>
          have hd : ((c0.toNat : Int) == 35) = false := u8_ne c0 35 (by decide) h35
          have Hon := Lib.hid (show Calls Tryz.prog 27 #[.slice (some ⟨gw, 0, none⟩) n cw] w2 fun e w' => e = .returned (oneV (Ru.one ((c0 :: t) :: r))) ∧ Below w2.heap.size w2 w' by
            have h := HWs.out
            rw [Hn.out] at h ⊢
            exact ref22_one (c0 :: t) r _ cw _ w2 h (by have := Hwl.out; simp at this; omega))
          cases ho : Ru.one ((c0 :: t) :: r) with
          | none =>
            have Hno := Lib.hid (Ru.parse_bad (by rw [← HL.out]; exact Hst3.out h35 ho))
            have Ho := Lib.hid ho
            clear ho h35
            go_wp2_with (go_at_call 27; refine Hon.out.mono ?_; rw [Ho.out]; unfold oneV rlV; rintro e w3 ⟨rfl, hb3⟩; have Hb3 := Lib.hid (Hb2.out.trans (hb3.mono Hb2.out.size)); clear hb3)
            go_ret2
            exact PPost.bad Hno.out (by first | rfl | simp) (bseq (bseq Hb1.out Hb3.out) (below_new _ _))
          | some y =>
            have Hst := Lib.hid (Hst2.out h35 y ho)
            have Hye := Lib.hid (Ru.one_len ho (fun u hu => (Hwe.out u hu).1))
            have Ho := Lib.hid ho
            clear ho h35
            obtain ⟨fl, hown, hrep⟩ := HO2.out
            have Hown := Lib.hid hown; have Hrep := Lib.hid hrep
            have Hm1 := Lib.hid (show A.length + 1 ≤ maxLen by have := HAk.out; have := Hlt.out; have := HLl.out; unfold maxLen; omega)
            have Hn1 := Lib.hid (show (A.length + 1) * 40 ≤ 140737488355328 by have := HAk.out; have := Hlt.out; have := HLl.out; omega)
            clear hown hrep
            go_wp2_with first
              | (go_at_call 27; refine Hon.out.mono ?_; rw [Ho.out]; unfold oneV rlV; rintro e w3 ⟨rfl, hb3⟩; have Hb3 := Lib.hid (Hb2.out.trans (hb3.mono Hb2.out.size)); have own3 := Lib.hid (own_below (own_below Hown.out hb3) (below_new w3 (.cells #[.int .i64 y.kind, .string ⟨y.a.toArray⟩, .string ⟨y.b.toArray⟩] 38))); have H0W := Lib.hid (show w1.heap.size ≤ (w3.alloc (.cells #[.int .i64 y.kind, .string ⟨y.a.toArray⟩, .string ⟨y.b.toArray⟩] 38)).heap.size from (bseq Hb3.out (below_new _ _)).size); clear hb3)
              | (at_builtin; go_loud (refine wpList_append1 rfl (.tmp 41) (.tmp 43) 27 rfl w1.heap.size 38 i0 (.agg #[.int .i64 0, .string ⟨#[]⟩, .string ⟨#[]⟩]) 3 40 Tryz.underlying27 Hi.out Hz0.out Hz1.out Hz2.out rfl (by decide) _ _ _ own3.out rfl [.int .i64 y.kind, .string ⟨y.a.toArray⟩, .string ⟨y.b.toArray⟩] rfl (by simp) rfl (by simp [Value.oneCell']) Hm1.out Hn1.out H0W.out ?_); intro v2 w9 own4 g2 at2; obtain ⟨p2, cap2, hv2, _⟩ := own4.form (Nat.succ_pos _); subst hv2)
            go_roundw
            case rel =>
              refine ⟨k + 1, p2, cap2, A ++ [y], by have := Hlt.out; omega, by first | rfl | rw [Hwk.out], by rw [List.length_append]; rfl, ?_, Hst.out, by rw [List.length_append]; have := HAk.out; simp; omega, ?_, ?_⟩
              · exact ⟨_, by rw [List.length_append]; exact own4, RepRow.snoc (R := RRl) (x := y) (vs := [.int .i64 y.kind, .string ⟨y.a.toArray⟩, .string ⟨y.b.toArray⟩]) rfl Hrep.out⟩
              · intro z hz
                rcases List.mem_append.1 hz with h | h
                · exact HAe.out z h
                · rw [List.mem_singleton.1 h]; exact Hye.out
              · exact (bseq Hb3.out (below_new _ _)).grown g2 H0W.out (fun q e => (World.ownsRow.lt own3.out q e).1)
            case measure => have := Hlt.out; (try rw [Hwk.out]); simp [intOf]; omega
    · have he : k = L.length := by omega
      subst he
      rw [List.take_length, HL.out] at hA
      have Hp := Lib.hid (Ru.parse_at hA)
      have hrr := ref22_right A (.slice (some ⟨g, 0, none⟩) A.length c) (fun _ => True) wr (hO.slice RRl.size (fun _ => True) (fun _ _ => trivial)) (by have := HLl.out; omega) (fun x hx => ⟨by have := hAe x hx; omega, by have := hAe x hx; omega⟩)
      have Hrr := Lib.hid hrr; have HO := Lib.hid hO; have Hb := Lib.hid hb
      clear hA hrr hO hb hlt hk hAk hAe
      cases hr : Ru.right A with
      | false =>
        have Hr := Lib.hid hr
        have Hno := Lib.hid (show Ru.parse s = none by rw [Hp.out, hr]; rfl)
        clear hr
        go_wp2_with (go_at_call 12; refine Hrr.out.mono ?_; rw [Hr.out]; rintro e w3 ⟨rfl, hb3⟩; have Hb3 := Lib.hid (Hb.out.trans (hb3.mono Hb.out.size)); clear hb3)
        go_ret2
        exact PPost.bad Hno.out (by first | rfl | simp) (bseq Hb1.out Hb3.out)
      | true =>
        have Hr := Lib.hid hr
        have Hyes := Lib.hid (show Ru.parse s = some A by rw [Hp.out, hr]; rfl)
        clear hr
        go_wp2_with (go_at_call 12; refine Hrr.out.mono ?_; rw [Hr.out]; rintro e w3 ⟨rfl, hb3⟩; have HO3 := Lib.hid (HO.out.below hb3); have Hb3 := Lib.hid (Hb.out.trans (hb3.mono Hb.out.size)); clear hb3)
        go_ret2
        exact PPost.ok Hyes.out (by first | rfl | simp) (HO3.out.lower Hb1.out.size) (bseq Hb1.out Hb3.out)
end Go.Proofs.YtibinlpbcoihoaaGreatDoor
set_option linter.unusedSimpArgs false
set_option linter.unusedVariables false
namespace Go.Proofs.YtibinlpbcoihoaaGreatDoor
open Go.RowKit
def Dis (a b : Value) : Prop := ∀ j, a.ownBlock = some j → b.ownBlock ≠ some j
theorem Dis.symm {a b : Value} (h : Dis a b) : Dis b a := fun j hb ha => h j ha hb
/-- a side under way: a block of the call's own, whose four slices are the call's own too, from B on -/
structure SX (g B : Nat) (W : World) (x : Sd.Side) (vl vh vc vb : Value) : Prop where
  c0 : W.cell? ⟨g, 0, none⟩ = some vl
  f0 : W.frozen? ⟨g, 0, none⟩ = false
  c1 : W.cell? ⟨g, 1, none⟩ = some vh
  f1 : W.frozen? ⟨g, 1, none⟩ = false
  c2 : W.cell? ⟨g, 2, none⟩ = some vc
  f2 : W.frozen? ⟨g, 2, none⟩ = false
  c3 : W.cell? ⟨g, 3, none⟩ = some vb
  f3 : W.frozen? ⟨g, 3, none⟩ = false
  lt : g < B
  sz : B ≤ W.heap.size
  l : OwnL B 224 3 RLab W vl x.labs
  h : OwnL B 226 4 RHd W vh x.heads
  c : OwnL B 9 1 RStr W vc x.cites
  b : OwnL B 9 1 RStr W vb x.bibs
  d01 : Dis vl vh
  d02 : Dis vl vc
  d03 : Dis vl vb
  d12 : Dis vh vc
  d13 : Dis vh vb
  d23 : Dis vc vb
theorem OwnL.grown {α : Type} {B : Nat} {t : TypeId} {n : Nat} {R : α → List Value → Prop} {W W' : World} {v : Value} {l : List α} {row : Option Nat} (h : OwnL B t n R W v l) (hg : W.grownBy W' row) (hne : ∀ j, v.ownBlock = some j → row ≠ some j) : OwnL B t n R W' v l := by
  obtain ⟨fl, h1, h2⟩ := h
  refine ⟨fl, h1.kept hg ?_, h2⟩
  cases hv : v.ownBlock with
  | none => exact Or.inl rfl
  | some j => exact Or.inr (fun e => hne j hv e.symm)
theorem OwnL.ge {α : Type} {B : Nat} {t : TypeId} {n : Nat} {R : α → List Value → Prop} {W : World} {v : Value} {l : List α} (h : OwnL B t n R W v l) (j : Nat) (hj : v.ownBlock = some j) : B ≤ j ∧ j < W.heap.size := by
  obtain ⟨fl, h1, _⟩ := h
  exact h1.lt j hj
theorem SX.below {g B : Nat} {W W' : World} {x : Sd.Side} {vl vh vc vb : Value} (h : SX g B W x vl vh vc vb) (hb : Below W.heap.size W W') : SX g B W' x vl vh vc vb := by
  have hg : g < W.heap.size := Nat.lt_of_lt_of_le h.lt h.sz
  exact ⟨(hb.cell (p := ⟨g, 0, none⟩) hg).trans h.c0, (frozen_below hb hg).trans h.f0, (hb.cell (p := ⟨g, 1, none⟩) hg).trans h.c1, (frozen_below hb hg).trans h.f1, (hb.cell (p := ⟨g, 2, none⟩) hg).trans h.c2, (frozen_below hb hg).trans h.f2, (hb.cell (p := ⟨g, 3, none⟩) hg).trans h.c3, (frozen_below hb hg).trans h.f3,
    h.lt, Nat.le_trans h.sz hb.size, h.l.below hb, h.h.below hb, h.c.below hb, h.b.below hb, h.d01, h.d02, h.d03, h.d12, h.d13, h.d23⟩
theorem SX.drew {g B : Nat} {W : World} {x : Sd.Side} {vl vh vc vb : Value} (h : SX g B W x vl vh vc vb) : SX g B W.drew x vl vh vc vb := h.below ((Below.refl _ _).drew)
/-- what stands: all blocks below B but the side's -/
def Kept (g B : Nat) (a w : World) : Prop := Below g a w ∧ ∀ k, k < B → k ≠ g → w.heap[k]? = a.heap[k]?
theorem Kept.trans {g B : Nat} {a b c : World} (h : Kept g B a b) (k : Kept g B b c) : Kept g B a c := ⟨h.1.trans k.1, fun i hi hne => (k.2 i hi hne).trans (h.2 i hi hne)⟩
theorem Kept.below {g B : Nat} {a b : World} (h : Below a.heap.size a b) (hg : g ≤ B) (hB : B ≤ a.heap.size) : Kept g B a b := ⟨h.mono (by omega), fun i hi _ => h.block i (by omega)⟩
end Go.Proofs.YtibinlpbcoihoaaGreatDoor
