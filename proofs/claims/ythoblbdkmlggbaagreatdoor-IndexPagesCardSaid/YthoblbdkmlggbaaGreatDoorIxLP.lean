/- The law IndexPages: its plain half, and its walk. -/
import Derived.Test.YthoblbdkmlggbaaGreatDoorIxK
import Derived.Test.YthoblbdkmlggbaaGreatDoorIxPg
import Derived.Test.YthoblbdkmlggbaaGreatDoorIxO
set_option linter.unusedSimpArgs false
set_option linter.unusedVariables false
namespace Go.Proofs.YthoblbdkmlggbaaGreatDoor
open Go.RowKit
def IU8 (x : UInt8) (vs : List Value) : Prop := vs = [.int .u8 (x.toNat : Int)]
namespace Ix
def pg8 (x : UInt8) : Int := ((1 + x.toNat % 60 : Nat) : Int)
def pgs (l : List UInt8) : List Int := (l.take 40).map pg8
theorem pgs_in (l : List UInt8) : ∀ x ∈ pgs l, 1 ≤ x ∧ x ≤ 60 := by
  intro x hx
  obtain ⟨y, _, rfl⟩ := List.mem_map.1 hx
  unfold pg8
  omega
theorem pgs_len (l : List UInt8) : (pgs l).length ≤ 40 := by unfold pgs; rw [List.length_map, List.length_take]; omega
theorem pgs_snoc (l : List UInt8) (k : Nat) (x : UInt8) (h : l[k]? = some x) (hk : k < 40) : pgs (l.take (k + 1)) = pgs (l.take k) ++ [pg8 x] := by
  unfold pgs
  rw [List.take_take, List.take_take, show min 40 (k + 1) = k + 1 by omega, show min 40 k = k by omega, take_snoc l k x h, List.map_append]
  rfl
theorem pgs_take (l : List UInt8) (k : Nat) (h : k = 40 ∨ k = l.length) : pgs (l.take k) = pgs l := by
  unfold pgs
  rw [List.take_take]
  rcases h with rfl | rfl
  · rfl
  · rcases Nat.le_total 40 l.length with h | h
    · rw [Nat.min_eq_left h]
    · rw [Nat.min_eq_right h, List.take_length, List.take_of_length_le h]
def tI (l : List Int) : List Int := l.reverse.flatMap fun x => [x, x]
theorem mem_tI (l : List Int) (x : Int) : x ∈ tI l ↔ x ∈ l := by
  unfold tI
  rw [List.mem_flatMap]
  constructor
  · rintro ⟨y, hy, hx⟩
    simp at hx
    rw [hx]; exact List.mem_reverse.1 hy
  · intro hx
    exact ⟨x, List.mem_reverse.2 hx, by simp⟩
theorem tI_cons (x : Int) (r : List Int) : tI (x :: r) = tI r ++ [x] ++ [x] := by
  unfold tI
  rw [List.reverse_cons, List.flatMap_append]
  simp
theorem tI_length : ∀ l : List Int, (tI l).length = 2 * l.length
  | [] => rfl
  | x :: r => by rw [tI_cons, List.length_append, List.length_append, tI_length r]; simp; omega
theorem text_tI (l : List Int) : text (tI l) = text l := text_same _ _ (fun x _ => mem_tI l x)
theorem text_empty (l : List Int) (h : ∀ x ∈ l, 1 ≤ x ∧ x ≤ 60) : (text l).isEmpty = true ↔ l = [] := by
  constructor
  · intro he
    cases l with
    | nil => rfl
    | cons a r =>
      have ha := h a (by simp)
      have := text_ne (a :: r) a (by simp) (by simp [page]; omega)
      rw [List.isEmpty_iff] at he
      exact absurd he this
  · rintro rfl; rfl
theorem memb_put (L : List Int) (y : Nat) (h : y < 62) : (memb L).set y true = memb (L ++ [(y : Int)]) :=
  memb_set L y true h _ (fun x => by
    by_cases hx : x = (y : Int)
    · rw [if_pos hx, hx]; simp
    · rw [if_neg hx]; simp [hx])
end Ix
theorem ints_row (l : List Int) : RepRow RInt l (l.map (Value.int .i64)) := by
  induction l with
  | nil => rfl
  | cons x r ih => exact ⟨[.int .i64 x], r.map (Value.int .i64), rfl, rfl, ih⟩
theorem ints_own {w : World} {B : Nat} {v : Value} {l : List Int} (h : w.ownsRow B 3 1 v l.length (l.map (Value.int .i64))) : OwnL B 3 1 RInt w v l := ⟨_, h, ints_row l⟩
theorem bool_info : (Tryz.prog.info? 4).map (fun i => (i.zero, i.size, i.bytes)) = some (some (.bool false), 1, 1) := by kernel_rfl
theorem pg_wx (q : Nat) (h : q < 256) : wrap64 (q : Int) = (q : Int) := by unfold wrap64; omega
theorem pg_rm (q m : Nat) (hm : m = q % 60) : (q : Int).tmod 60 = (m : Int) := by
  rw [Int.tmod_eq_emod_of_nonneg (Int.natCast_nonneg q), hm]
  rfl
theorem pg_w1 (m y : Nat) (hm : m < 60) (hy : y = 1 + m) : wrap64 (1 + (m : Int)) = (y : Int) := by unfold wrap64; omega
theorem dg_1 (n n1 : Nat) (h : n ≤ 999999) (e : n1 = n * 10) : wrap64 ((n : Int) * 10) = (n1 : Int) := by unfold wrap64; omega
theorem dg_2 (n1 q n2 : Nat) (h : n1 ≤ 9999990) (hq : q < 256) (e : n2 = n1 + q) : wrap64 ((n1 : Int) + (q : Int)) = (n2 : Int) := by unfold wrap64; omega
theorem dg_3 (n2 n3 : Nat) (h : n2 ≤ 99999990) (h2 : 48 ≤ n2) (e : n3 = n2 - 48) : wrap64 ((n2 : Int) - 48) = (n3 : Int) := by unfold wrap64; omega
theorem ix_w1 (i : Nat) (h : i ≤ 9223372036854775806) : wrap64 ((i : Int) + 1) = ((i + 1 : Nat) : Int) := by unfold wrap64; omega
/-- three rows that were just made -/
theorem three_rows (w W : World) (g3 g4 g5 : Nat) (h3 : W.heap[g3]? = some (.cells #[] 3 (0, 0))) (h4 : W.heap[g4]? = some (.cells #[] 3 (0, 0))) (h5 : W.heap[g5]? = some (.cells (madeCells (Value.bool false).cells 62) 4 (0, 0)))
    (b3 : w.heap.size ≤ g3) (b4 : w.heap.size ≤ g4) (b5 : w.heap.size ≤ g5) :
    W.ownsRow w.heap.size 3 1 (.slice (some ⟨g3, 0, none⟩) 0 0) 0 [] ∧ W.ownsRow w.heap.size 3 1 (.slice (some ⟨g4, 0, none⟩) 0 0) 0 [] ∧ W.ownsRow w.heap.size 4 1 (.slice (some ⟨g5, 0, none⟩) 62 62) 62 ((Ix.memb []).map Value.bool) := by
  refine ⟨⟨rfl, .inr ⟨g3, 0, _, rfl, b3, h3, Nat.le_refl _, Nat.zero_le _, rfl, rfl⟩⟩, ⟨rfl, .inr ⟨g4, 0, _, rfl, b4, h4, Nat.le_refl _, Nat.zero_le _, rfl, rfl⟩⟩, ⟨by rw [List.length_map, Ix.memb_len], .inr ⟨g5, 62, _, rfl, b5, h5, Nat.le_refl _, by unfold maxLen; omega, size_madeCells _ _, ?_⟩⟩⟩
  have : (madeCells (Value.bool false).cells 62).toList = List.replicate 62 (.bool false) := toList_madeCells_one _ _
  have e : (List.replicate 62 (Value.bool false)).take (62 * 1) = (Ix.memb []).map Value.bool := by kernel_rfl
  rw [this]
  exact e
theorem three_heap (w : World) (o1 o2 o3 : Obj) : (((w.alloc o1).alloc o2).alloc o3).drew.heap[w.heap.size]? = some o1 ∧ (((w.alloc o1).alloc o2).alloc o3).drew.heap[w.heap.size + 1]? = some o2 ∧ (((w.alloc o1).alloc o2).alloc o3).drew.heap[w.heap.size + 1 + 1]? = some o3 ∧ Below w.heap.size w (((w.alloc o1).alloc o2).alloc o3).drew := by
  obtain ⟨w1, hw1⟩ : ∃ W, W = w.alloc o1 := ⟨_, rfl⟩
  obtain ⟨w2, hw2⟩ : ∃ W, W = w1.alloc o2 := ⟨_, rfl⟩
  obtain ⟨w3, hw3⟩ : ∃ W, W = w2.alloc o3 := ⟨_, rfl⟩
  have s1 : w1.heap.size = w.heap.size + 1 := by rw [hw1]; simp
  have s2 : w2.heap.size = w.heap.size + 1 + 1 := by rw [hw2, ← s1]; simp
  have b1 : Below w.heap.size w w1 := by rw [hw1]; exact below_new _ _
  have b2 : Below w1.heap.size w1 w2 := by rw [hw2]; exact below_new _ _
  have b3 : Below w2.heap.size w2 w3 := by rw [hw3]; exact below_new _ _
  have h1 : w1.heap[w.heap.size]? = some o1 := by rw [hw1]; exact heap_alloc_new w o1
  have h2 : w2.heap[w.heap.size + 1]? = some o2 := by rw [hw2, ← s1]; exact heap_alloc_new w1 o2
  have h3 : w3.heap[w.heap.size + 1 + 1]? = some o3 := by rw [hw3, ← s2]; exact heap_alloc_new w2 o3
  rw [← hw1, ← hw2, ← hw3]
  exact ⟨((b3.block _ (by omega)).trans (b2.block _ (by omega))).trans h1, (b3.block _ (by omega)).trans h2, h3, (bseq (bseq b1 b2) b3).drew⟩
set_option maxRecDepth 100000 in
set_option maxHeartbeats 6400000 in
theorem lawIxPg_walk (p : Option Addr) (cap : Nat) (l : List UInt8) (w : World) (hH : Laid10 w ∧ l.length ≤ maxLen) (hE : OSl 1 IU8 w p l) :
    Calls Tryz.prog 5 #[.slice p l.length cap] w fun e w' => e = .returned (.bool true) ∧ Below w.heap.size w w' := by
  obtain ⟨i0, hi, hz0, hz1, hz2⟩ := info_parts int_info
  have Hi := Lib.hid hi; have Hz0 := Lib.hid hz0; have Hz1 := Lib.hid hz1; have Hz2 := Lib.hid hz2
  obtain ⟨ib, hib, hb0, hb1, hb2⟩ := info_parts bool_info
  have hmk : ∀ W : World, (Instr.makeSlice 41 (.int .i64 62) (.int .i64 62)).run Tryz.prog W = .ok (.slice (some ⟨W.heap.size, 0, none⟩) 62 62) (W.alloc (.cells (madeCells (Value.bool false).cells 62) 4)) := fun W => by
    have h := run_make (P := Tryz.prog) W 41 4 ib (.bool false) Tryz.underlying41 hib hb0 .i64 .i64 62 62 (by omega) (Int.le_refl _) (by rw [hb2]; omega) (by omega)
    simpa [hb1] using h
  clear hi hz0 hz1 hz2 hib hb0 hb1 hb2
  have HL := Lib.hid hH.1
  have Hlm := Lib.hid hH.2
  have Hat := Lib.hid hE
  clear hH hE
  go_enter Tryz.func5, Tryz.ntmps5
  go_upto_region 1 with fail
  go_cut [3, 4, 5] from 15 to 17 (fun v3 v4 v5 W => ∃ g3 g4 g5, v3 = .slice (some ⟨g3, 0, none⟩) 0 0 ∧ v4 = .slice (some ⟨g4, 0, none⟩) 0 0 ∧ v5 = .slice (some ⟨g5, 0, none⟩) 62 62 ∧ g3 ≠ g4 ∧ W.ownsRow w.heap.size 3 1 v3 0 [] ∧ W.ownsRow w.heap.size 3 1 v4 0 [] ∧ W.ownsRow w.heap.size 4 1 v5 62 ((Ix.memb []).map Value.bool) ∧ Below w.heap.size w W)
  case first =>
    go_region
    all_goals (go_wp2_with fail; go_meet)
    all_goals
      refine ⟨_, _, _, rfl, rfl, rfl, by omega, ?_⟩
      refine (fun H => ⟨H.1, H.2.1, H.2.2, (three_heap w _ _ _).2.2.2⟩) (three_rows w _ _ _ _ ?_ ?_ ?_ (by omega) (by omega) (by omega))
      all_goals first | exact (three_heap w _ _ _).1 | exact (three_heap w _ _ _).2.1 | exact (three_heap w _ _ _).2.2.1
  case rest =>
    obtain ⟨g3, g4, g5, rfl, rfl, rfl, hne, hO3, hO4, hO5, hbc⟩ := hcut
    have HO3 := Lib.hid hO3; have HO4 := Lib.hid hO4; have HO5 := Lib.hid hO5; have Hbc := Lib.hid hbc; have Hne := Lib.hid hne
    have Hg5 := Lib.hid (World.ownsRow.lt hO5 g5 rfl).1
    clear hO3 hO4 hO5 hbc hne hmk
    go_wp2_with fail
    go_loopw [3, 6] (fun pv iv wr => ∃ k g c : Nat, k ≤ l.length ∧ k ≤ 40 ∧ iv = .int .i64 (k : Int) ∧ pv = .slice (some ⟨g, 0, none⟩) (Ix.pgs (l.take k)).length c ∧ g ≠ g4 ∧ wr.ownsRow w.heap.size 3 1 pv (Ix.pgs (l.take k)).length ((Ix.pgs (l.take k)).map (Value.int .i64)) ∧ wr.ownsRow w.heap.size 3 1 (.slice (some ⟨g4, 0, none⟩) 0 0) 0 [] ∧ wr.ownsRow w.heap.size 4 1 (.slice (some ⟨g5, 0, none⟩) 62 62) 62 ((Ix.memb (Ix.pgs (l.take k))).map Value.bool) ∧ Below w.heap.size w wr) (fun _ iv _ => l.length - (intOf iv).toNat)
    case atStart => exact ⟨0, g3, 0, Nat.zero_le _, Nat.zero_le _, rfl, rfl, Hne.out, HO3.out, HO4.out, HO5.out, Hbc.out⟩
    case round =>
      clear HO3 HO4 HO5 Hbc Hne
      obtain ⟨k, g, c, hk, hk40, rfl, rfl, hne, hO3, hO4, hO5, hb⟩ := hrel
      have HO3 := Lib.hid hO3; have HO4 := Lib.hid hO4; have HO5 := Lib.hid hO5; have Hb := Lib.hid hb; have Hne := Lib.hid hne
      clear hO3 hO4 hO5 hb hne
      have more_ : k < l.length ∧ k < 40 ∨ (k = 40 ∨ k = l.length) := by omega
      rcases more_ with ⟨hlt, h40⟩ | hend
      · obtain ⟨x, hx⟩ : ∃ x, l[k]? = some x := ⟨_, List.getElem?_eq_getElem hlt⟩
        have hsn := Ix.pgs_snoc l k x hx h40
        have hLn := Ix.pgs_len (l.take k)
        obtain ⟨L, hL⟩ : ∃ L, L = Ix.pgs (l.take k) := ⟨_, rfl⟩
        rw [← hL] at hsn hLn HO3 HO5 ⊢
        obtain ⟨a, b, o, sp, vs, rfl, hadr, hbw, hR, hc⟩ := Hat.out k x hx
        rw [Nat.mul_one] at hadr
        have hR : vs = _ := hR
        subst hR
        have e0 : wr.cell? ⟨b, o, sp⟩ = some (.int .u8 (x.toNat : Int)) := (Hb.out.cell (p := ⟨b, o, sp⟩) hbw).trans (hc 0 _ rfl)
        have hlt' : (k : Int) < (l.length : Int) := by omega
        have h40' : (k : Int) < 40 := by omega
        have hq256 := x.toNat_lt
        have hpg : Ix.pg8 x = ((1 + x.toNat % 60 : Nat) : Int) := rfl
        obtain ⟨q, hq⟩ : ∃ q, q = x.toNat := ⟨_, rfl⟩
        rw [← hq] at e0 hq256 hpg
        obtain ⟨m, hm⟩ : ∃ m, m = q % 60 := ⟨_, rfl⟩
        obtain ⟨y, hy⟩ : ∃ y, y = 1 + m := ⟨_, rfl⟩
        rw [← hm, ← hy] at hpg
        rw [hpg] at hsn
        have hm60 : m < 60 := by rw [hm]; exact Nat.mod_lt _ (by omega)
        have hy62 : (y : Int) < 62 := by omega
        obtain ⟨k1, hk1⟩ : ∃ k1, k1 = k + 1 := ⟨_, rfl⟩
        have hwk : wrap64 ((k : Int) + 1) = (k1 : Int) := by unfold wrap64; omega
        have Hk1 := Lib.hid hk1
        have Hy := Lib.hid (show y < 62 by omega); have Hsn := Lib.hid hsn; have HLn := Lib.hid hLn; have Hlt := Lib.hid hlt; have H40 := Lib.hid h40
        have Hm1 := Lib.hid (show L.length + 1 ≤ maxLen by unfold maxLen; omega)
        have Hn1 := Lib.hid (show (L.length + 1) * 8 ≤ 140737488355328 by omega)
        have H0W := Lib.hid Hb.out.size
        have hwx := pg_wx q hq256
        have hw1 := pg_w1 m y hm60 hy
        have hrm := pg_rm q m hm
        clear hk1 hsn hLn hlt h40 hx hL hc hpg hq hm hy hq256 hk hk40 hbw hm60
        obtain ⟨bb, hbb⟩ : ∃ bb, bb = decide ((y : Int) ∈ L) := ⟨_, rfl⟩
        have Hbb := Lib.hid hbb; clear hbb
        go_upto_region 6 with fail
        rw [hw1]
        clear hrm hwx hw1 hlt' h40' e0 hadr
        go_wp2_with (at_builtin; go_loud (refine wpList_append1 rfl (.tmp 35) (.tmp 37) 22 rfl w.heap.size 3 i0 (.int .i64 0) 1 8 Tryz.underlying22 Hi.out Hz0.out Hz1.out Hz2.out rfl (by decide) _ _ _ HO3.out rfl [.int .i64 (y : Int)] rfl (by simp) rfl (by simp [Value.oneCell']) Hm1.out Hn1.out H0W.out ?_); intro v2 w9 own2 g2 at2; obtain ⟨p2, cap2, hv2, _⟩ := own2.form (Nat.succ_pos _); subst hv2; have R5 := Lib.hid (HO5.out.kept g2 (own_apart HO5.out HO3.out (by decide))); have e5 : w9.cell? ⟨g5, y, none⟩ = some (.bool bb) := (by rw [World.ownsRow.cellAt R5.out y (by have := Hy.out; omega), List.getElem?_map, Ix.memb_get _ _ Hy.out, ← Hbb.out]; rfl); have f5 := World.ownsRow.frozenAt R5.out y)
        go_roundw
        case rel =>
          have st := World.ownsRow.stored R5.out y (.bool true)
          refine ⟨k1, p2, cap2, by have := Hlt.out; have := Hk1.out; omega, by have := H40.out; have := Hk1.out; omega, by first | rfl | rw [hwk], by rw [Hk1.out, Hsn.out, List.length_append]; rfl, ?_, ?_, ?_, ?_, (Hb.out.grown g2 H0W.out (fun q e => (World.ownsRow.lt HO3.out q e).1)).setCell (p := ⟨g5, y, none⟩) Hg5.out _⟩
          · have h4 := (World.ownsRow.lt HO4.out g4 rfl).2
            rcases at2 with h | h
            · simp only [Value.ownBlock, Option.some.injEq] at h; rw [h]; exact Hne.out
            · simp only [Value.ownBlock, Option.some.injEq] at h; omega
          · rw [Hk1.out, Hsn.out, List.length_append, List.map_append]
            exact own2.kept st.2 (own_apart own2 R5.out (by decide))
          · have r4 := HO4.out.kept g2 (.inr (by simp only [Value.ownBlock, ne_eq, Option.some.injEq]; exact fun e => Hne.out e.symm))
            exact r4.kept st.2 (own_apart r4 R5.out (by decide))
          · rw [Hk1.out, Hsn.out, ← Ix.memb_put L y Hy.out, List.map_set]
            exact st.1
        case measure => have := Hlt.out; have := Hk1.out; (try rw [hwk]); simp [intOf]; omega
      · have ht := Ix.pgs_take l k hend
        rw [ht] at HO3 HO5 ⊢
        have hLn := Ix.pgs_len l
        have hLi := Ix.pgs_in l
        obtain ⟨L, hL⟩ : ∃ L, L = Ix.pgs l := ⟨_, rfl⟩
        rw [← hL] at HO3 HO5 hLn hLi ⊢
        have HLn := Lib.hid hLn; have HLi := Lib.hid hLi
        have hcond : decide ((k : Int) < (l.length : Int)) = false ∨ ((k : Int) < (l.length : Int) ∧ decide ((k : Int) < 40) = false) := by
          by_cases h : k < l.length
          · exact .inr ⟨by omega, decide_eq_false (by omega)⟩
          · exact .inl (decide_eq_false (by omega))
        have hwl : wrap64 ((L.length : Int) - 1) = (L.length : Int) - 1 := by unfold wrap64; omega
        clear hL ht hLn hLi hend hk hk40
        have hdone : ∃ u, u = wr := ⟨_, rfl⟩
        obtain ⟨u, rfl⟩ := hdone
        obtain ⟨kk, hkk⟩ : ∃ z : Int, z = (k : Int) := ⟨_, rfl⟩
        rw [← hkk] at hcond ⊢
        clear hkk
        have Hcond := Lib.hid hcond
        clear hcond
        go_upto_region 3 with fail
        go_cut [25] from 18 to 26 (fun v W => v = .bool false ∧ W = u)
        case first =>
          rcases Hcond.out with hcond | ⟨hcond, hc2⟩
          · go_wp2_with fail
            go_meet
            exact ⟨rfl, rfl⟩
          · go_wp2_with fail
            go_meet
            exact ⟨rfl, rfl⟩
        case rest =>
          obtain ⟨rfl, hw⟩ := hcut
          have hw := hw.symm
          subst hw
          clear Hcond
          go_wp2_with fail
          go_loopw [4, 8] (fun tv iv wr => ∃ k h ch : Nat, k ≤ L.length ∧ iv = .int .i64 ((k : Int) - 1) ∧ tv = .slice (some ⟨h, 0, none⟩) (Ix.tI (L.drop k)).length ch ∧ h ≠ g ∧ wr.ownsRow w.heap.size 3 1 tv (Ix.tI (L.drop k)).length ((Ix.tI (L.drop k)).map (Value.int .i64)) ∧ wr.ownsRow w.heap.size 3 1 (.slice (some ⟨g, 0, none⟩) L.length c) L.length (L.map (Value.int .i64)) ∧ wr.ownsRow w.heap.size 4 1 (.slice (some ⟨g5, 0, none⟩) 62 62) 62 ((Ix.memb L).map Value.bool) ∧ Below w.heap.size w wr) (fun _ iv _ => (intOf iv + 1).toNat)
          case atStart =>
            refine ⟨L.length, g4, 0, Nat.le_refl _, by first | rfl | rw [hwl], by rw [List.drop_length]; rfl, fun e => Hne.out e.symm, by rw [List.drop_length]; exact HO4.out, HO3.out, HO5.out, Hb.out⟩
          case round =>
            clear HO3 HO4 HO5 Hb Hne hwl
            obtain ⟨k, h, ch, hk, rfl, rfl, hne, hO4, hO3, hO5, hb⟩ := hrel
            have HO3 := Lib.hid hO3; have HO4 := Lib.hid hO4; have HO5 := Lib.hid hO5; have Hb := Lib.hid hb; have Hne := Lib.hid hne
            clear hO3 hO4 hO5 hb hne
            cases k with
            | succ j =>
              obtain ⟨x, hx⟩ : ∃ x, L[j]? = some x := ⟨_, List.getElem?_eq_getElem (by omega)⟩
              have hd : L.drop j = x :: L.drop (j + 1) := by
                obtain ⟨h1, h2⟩ := List.getElem?_eq_some_iff.1 hx
                rw [List.drop_eq_getElem_cons h1, h2]
              obtain ⟨T, hT⟩ : ∃ T, T = Ix.tI (L.drop (j + 1)) := ⟨_, rfl⟩
              have hTn : Ix.tI (L.drop j) = T ++ [x] ++ [x] := by rw [hd, Ix.tI_cons, hT]
              have hTl : T.length ≤ 80 := by rw [hT, Ix.tI_length, List.length_drop]; have := HLn.out; omega
              rw [← hT] at HO4 ⊢
              have hcx : ∀ W : World, W.ownsRow w.heap.size 3 1 (.slice (some ⟨g, 0, none⟩) L.length c) L.length (L.map (Value.int .i64)) → W.cell? ⟨g, j, none⟩ = some (.int .i64 x) := fun W hW => by
                rw [World.ownsRow.cellAt hW j (by omega), List.getElem?_map, hx]; rfl
              have Hcx := Lib.hid hcx
              have e0 := hcx wr HO3.out
              have hi1 : ((j + 1 : Nat) : Int) - 1 = (j : Int) := by omega
              rw [hi1]
              have hjl : (j : Int) < (L.length : Int) := by omega
              have hge : (0 : Int) ≤ (j : Int) := by omega
              have hwk : wrap64 ((j : Int) - 1) = (j : Int) - 1 := by unfold wrap64; have := HLn.out; omega
              have HTn := Lib.hid hTn
              have Hm1 := Lib.hid (show T.length + 1 ≤ maxLen by unfold maxLen; omega)
              have Hn1 := Lib.hid (show (T.length + 1) * 8 ≤ 140737488355328 by omega)
              have Hm2 := Lib.hid (show T.length + 1 + 1 ≤ maxLen by unfold maxLen; omega)
              have Hn2 := Lib.hid (show (T.length + 1 + 1) * 8 ≤ 140737488355328 by omega)
              have H0W := Lib.hid Hb.out.size
              have Hj := Lib.hid hk
              clear hx hd hT hTn hTl hcx hk
              go_wp2_with (first
                | (at_builtin; go_loud (refine wpList_append1 rfl (.tmp 49) (.tmp 54) 22 rfl w.heap.size 3 i0 (.int .i64 0) 1 8 Tryz.underlying22 Hi.out Hz0.out Hz1.out Hz2.out rfl (by decide) _ _ _ HO4.out rfl [.int .i64 x] rfl (by simp) rfl (by simp [Value.oneCell']) Hm1.out Hn1.out H0W.out ?_); intro v2 w9 own2 g2 at2; obtain ⟨p2, cap2, hv2, _⟩ := own2.form (Nat.succ_pos _); subst hv2; have R3 := Lib.hid (HO3.out.kept g2 (.inr (by simp only [Value.ownBlock, ne_eq, Option.some.injEq]; exact fun e => Hne.out e.symm))); have R5 := Lib.hid (HO5.out.kept g2 (own_apart HO5.out HO4.out (by decide))); have e1 := Hcx.out w9 R3.out; have HB9 := Lib.hid (Hb.out.grown g2 H0W.out (fun q e => (World.ownsRow.lt HO4.out q e).1)); have H0X := Lib.hid HB9.out.size; have Own2 := Lib.hid own2; have Hp2 := Lib.hid (show p2 ≠ g by have hgl := (World.ownsRow.lt HO3.out g rfl).2; rcases at2 with e | e; (· simp only [Value.ownBlock, Option.some.injEq] at e; rw [e]; exact Hne.out); (· simp only [Value.ownBlock, Option.some.injEq] at e; omega)); clear own2 g2 at2)
                | (at_builtin; go_loud (refine wpList_append1 rfl (.tmp 56) (.tmp 61) 22 rfl w.heap.size 3 i0 (.int .i64 0) 1 8 Tryz.underlying22 Hi.out Hz0.out Hz1.out Hz2.out rfl (by decide) _ _ _ Own2.out rfl [.int .i64 x] rfl (by simp) rfl (by simp [Value.oneCell']) Hm2.out Hn2.out H0X.out ?_); intro v2b w9b own2b g2b at2b; obtain ⟨p2b, cap2b, hv2b, _⟩ := own2b.form (Nat.succ_pos _); subst hv2b))
              go_roundw
              case rel =>
                refine ⟨j, p2b, cap2b, by have := Hj.out; omega, by first | rfl | rw [hwk], by rw [HTn.out, List.length_append, List.length_append]; rfl, ?_, ?_, ?_, ?_, HB9.out.grown g2b H0X.out (fun q e => (World.ownsRow.lt Own2.out q e).1)⟩
                · rcases at2b with e | e
                  · simp only [Value.ownBlock, Option.some.injEq] at e; rw [e]; exact Hp2.out
                  · simp only [Value.ownBlock, Option.some.injEq] at e
                    have := (World.ownsRow.lt R3.out g rfl).2
                    omega
                · rw [HTn.out, List.length_append, List.length_append, List.map_append, List.map_append]
                  exact own2b
                · exact R3.out.kept g2b (.inr (by simp only [Value.ownBlock, ne_eq, Option.some.injEq]; exact fun e => Hp2.out e.symm))
                · exact R5.out.kept g2b (own_apart R5.out Own2.out (by decide))
              case measure => simp [intOf]; omega
            | zero =>
              rw [List.drop_zero] at HO4 ⊢
              have hTm := Ix.text_tI L
              have hTl : (Ix.tI L).length ≤ 80 := by rw [Ix.tI_length]; have := HLn.out; omega
              obtain ⟨T, hT⟩ : ∃ T, T = Ix.tI L := ⟨_, rfl⟩
              rw [← hT] at HO4 hTm hTl ⊢
              have HTl := Lib.hid hTl; have HTm := Lib.hid hTm
              clear hT hTl hTm hk
              go_wp2_with fail
              refine (ix_Pages L _ (fun _ => True) wr ((ints_own HO3.out).slice RInt.size _ (fun _ _ => trivial)) (by have := HLn.out; omega) (HL.out.below Hb.out).cnt).mono ?_
              rintro e w3 ⟨rfl, hb3⟩
              have hsc := Ix.scan_text L HLi.out
              have hem := Ix.text_empty L HLi.out
              have htl := Ix.text_length L
              obtain ⟨tx, htx⟩ : ∃ tx, tx = Ix.text L := ⟨_, rfl⟩
              rw [← htx] at hsc hem htl HTm ⊢
              have Hsc := Lib.hid hsc; have Hem := Lib.hid hem; have Htl := Lib.hid (show tx.length ≤ 100000 by have := HLn.out; omega)
              have Q3 := Lib.hid (own_below9 HO3.out hb3); have Q4 := Lib.hid (own_below9 HO4.out hb3); have Q5 := Lib.hid (own_below9 HO5.out hb3); have Qb := Lib.hid (bseq Hb.out hb3)
              clear hsc hem htl HO3 HO4 HO5 Hb hb3 htx
              go_wp2_with fail
              go_loopw [10, 11, 12] (fun nv fv iv wr => ∃ (i : Nat) (s : Ix.Scn), iv = .int .i64 (i : Int) ∧ nv = .int .i64 (s.n : Int) ∧ fv = .int .i64 (s.fr : Int) ∧ s.n ≤ 999999 ∧ s.fr ≤ 999999 ∧ ((i ≤ tx.length ∧ Ix.scan (tx.drop i) s = some (Ix.memb [])) ∨ (i = tx.length + 1 ∧ s.ins = Ix.memb [])) ∧ s.ins.length = 62 ∧ wr.ownsRow w.heap.size 3 1 (.slice (some ⟨g, 0, none⟩) L.length c) L.length (L.map (Value.int .i64)) ∧ wr.ownsRow w.heap.size 3 1 (.slice (some ⟨h, 0, none⟩) T.length ch) T.length (T.map (Value.int .i64)) ∧ wr.ownsRow w.heap.size 4 1 (.slice (some ⟨g5, 0, none⟩) 62 62) 62 ((s.ins).map Value.bool) ∧ Below w.heap.size w wr) (fun _ _ iv _ => tx.length + 1 - (intOf iv).toNat)
              case atStart => exact ⟨0, ⟨0, 0, Ix.memb L⟩, rfl, rfl, rfl, by simp, by simp, .inl ⟨Nat.zero_le _, Hsc.out⟩, Ix.memb_len L, Q3.out, Q4.out, Q5.out, Qb.out⟩
              case round =>
                clear Q3 Q4 Q5 Qb Hsc
                obtain ⟨i, s, rfl, rfl, rfl, hn, hfr, hcase, hil, hO3, hO4, hO5, hb⟩ := hrel
                have Q3 := Lib.hid hO3; have Q4 := Lib.hid hO4; have Q5 := Lib.hid hO5; have Qb := Lib.hid hb; have Hil := Lib.hid hil
                clear hO3 hO4 hO5 hb hil
                obtain ⟨n, fr, ins⟩ := s
                simp only at hn hfr hcase Q5 Hil ⊢
                have Hn := Lib.hid hn; have Hfr := Lib.hid hfr
                clear hn hfr
                rcases hcase with ⟨hi, hsc⟩ | ⟨hi, hins⟩
                · obtain ⟨i1, hi1⟩ : ∃ z, z = i + 1 := ⟨_, rfl⟩
                  have hwi : wrap64 ((i : Int) + 1) = (i1 : Int) := by rw [hi1]; exact ix_w1 i (by have := Htl.out; omega)
                  have Hi1 := Lib.hid hi1; have Hwi := Lib.hid hwi
                  clear hi1 hwi
                  by_cases hlt : i < tx.length
                  · obtain ⟨cc, hc⟩ : ∃ cc, tx[i]? = some cc := ⟨_, List.getElem?_eq_getElem hlt⟩
                    have hby := byte_at tx i cc hc
                    have hd : tx.drop i = cc :: tx.drop (i + 1) := by
                      obtain ⟨h1, h2⟩ := List.getElem?_eq_some_iff.1 hc
                      rw [List.drop_eq_getElem_cons h1, h2]
                    rw [hd] at hsc
                    have hsc2 : ∃ s', Ix.step cc ⟨n, fr, ins⟩ = some s' ∧ Ix.scan (tx.drop (i + 1)) s' = some (Ix.memb []) := by
                      have h1 : (Ix.step cc ⟨n, fr, ins⟩).bind (Ix.scan (tx.drop (i + 1))) = some (Ix.memb []) := hsc
                      cases hst : Ix.step cc ⟨n, fr, ins⟩ with
                      | none => rw [hst] at h1; cases h1
                      | some s' => rw [hst] at h1; exact ⟨s', rfl, h1⟩
                    obtain ⟨s', hst, hsc'⟩ := hsc2
                    have hltI : (i : Int) < (tx.length : Int) := by omega
                    have hneI : ((i : Int) == (tx.length : Int)) = false := by simp; omega
                    have hc256 := cc.toNat_lt
                    have Hlt := Lib.hid hlt; have Hsc' := Lib.hid hsc'
                    clear hc hd hsc hsc' hlt hi
                    have hiI : decide ((i : Int) ≤ (tx.length : Int)) = true := decide_eq_true (by have := Hlt.out; omega)
                    by_cases hdg : 48 ≤ cc.toNat ∧ cc.toNat ≤ 57
                    · have hs' : n * 10 + (cc.toNat - 48) ≤ 999999 ∧ s' = ⟨n * 10 + (cc.toNat - 48), fr, ins⟩ := by
                        unfold Ix.step at hst
                        rw [if_pos (by unfold Ix.isDig; simp; exact hdg)] at hst
                        simp only at hst
                        split at hst
                        · next h => cases hst; exact ⟨h, rfl⟩
                        · cases hst
                      obtain ⟨hb1, rfl⟩ := hs'
                      have hge : (48 : Int) ≤ (cc.toNat : Int) := by have := hdg.1; omega
                      have hle : (cc.toNat : Int) ≤ 57 := by have := hdg.2; omega
                      obtain ⟨n1, hn1⟩ : ∃ z, z = n * 10 := ⟨_, rfl⟩
                      obtain ⟨n2, hn2⟩ : ∃ z, z = n1 + cc.toNat := ⟨_, rfl⟩
                      obtain ⟨n3, hn3⟩ : ∃ z, z = n * 10 + (cc.toNat - 48) := ⟨_, rfl⟩
                      rw [← hn3] at Hsc' hb1
                      have hn1l : n1 ≤ 9999990 := by rw [hn1]; have := Hn.out; omega
                      have hn2l : n2 ≤ 99999990 := by rw [hn2]; omega
                      have hn2g : 48 ≤ n2 := by rw [hn2]; have := hdg.1; omega
                      have hn32 : n3 = n2 - 48 := by rw [hn3, hn2, hn1]; have := hdg.1; omega
                      have hw1 := dg_1 n n1 Hn.out hn1
                      have hwq := pg_wx cc.toNat hc256
                      have hw2 := dg_2 n1 cc.toNat n2 hn1l hc256 hn2
                      have hw3 := dg_3 n2 n3 hn2l hn2g hn32
                      have Hb1 := Lib.hid hb1
                      have Hw := Lib.hid (And.intro hw1 (And.intro hwq (And.intro hw2 hw3)))
                      clear hst hdg hb1 hn1 hn2 hn3 hc256 hn1l hn2l hn2g hn32 hw1 hwq hw2 hw3
                      go_upto_region 17 with fail
                      rw [Hw.out.1]
                      try rw [Hw.out.2.1]
                      rw [Hw.out.2.2.1, Hw.out.2.2.2]
                      go_wp2_with fail
                      go_roundw
                      case rel => exact ⟨i1, ⟨n3, fr, ins⟩, by first | rfl | rw [Hwi.out], rfl, rfl, Hb1.out, Hfr.out, .inl ⟨by have := Hlt.out; have := Hi1.out; omega, by rw [Hi1.out]; exact Hsc'.out⟩, Hil.out, Q3.out, Q4.out, Q5.out, Qb.out⟩
                      case measure => have := Hlt.out; have := Hi1.out; (try rw [Hwi.out]); simp [intOf]; omega
                    · have hdg2 : Ix.isDig cc = false := by
                        cases h : Ix.isDig cc with
                        | false => rfl
                        | true => unfold Ix.isDig at h; simp at h; exact absurd h hdg
                      unfold Ix.step at hst
                      rw [hdg2] at hst
                      simp only [Bool.false_eq_true, if_false] at hst
                      have hnd : decide ((48 : Int) ≤ (cc.toNat : Int)) = false ∨ ((48 : Int) ≤ (cc.toNat : Int) ∧ decide ((cc.toNat : Int) ≤ 57) = false) := by
                        by_cases h : 48 ≤ cc.toNat
                        · exact .inr ⟨by omega, decide_eq_false (by omega)⟩
                        · exact .inl (decide_eq_false (by omega))
                      have Hnd := Lib.hid hnd; have Hst := Lib.hid hst
                      clear hnd hst hdg hdg2 hc256
                      go_upto_region 18 with fail
                      go_cut [86] from 71 to 86 (fun v W => v = .bool false ∧ W = wr)
                      case first =>
                        rcases Hnd.out with hnd | ⟨hnd, hnd2⟩
                        · go_wp2_with fail
                          go_meet
                          exact ⟨rfl, rfl⟩
                        · go_wp2_with fail
                          go_meet
                          exact ⟨rfl, rfl⟩
                      case rest =>
                        obtain ⟨rfl, hw⟩ := hcut
                        have hw := hw.symm
                        subst hw
                        have hst := Hst.out
                        by_cases h45 : cc = 45
                        · subst h45
                          rw [if_pos rfl] at hst
                          cases hst
                          go_wp2_with fail
                          go_roundw
                          case rel => exact ⟨i1, ⟨0, n, ins⟩, by first | rfl | rw [Hwi.out], rfl, rfl, Nat.zero_le _, Hn.out, .inl ⟨by have := Hlt.out; have := Hi1.out; omega, by rw [Hi1.out]; exact Hsc'.out⟩, Hil.out, Q3.out, Q4.out, Q5.out, Qb.out⟩
                          case measure => have := Hlt.out; have := Hi1.out; (try rw [Hwi.out]); simp [intOf]; omega
                        · rw [if_neg h45] at hst
                          by_cases h44 : cc = 44
                          · rw [if_pos h44] at hst
                            have h4 : ((cc.toNat : Int) == 44) = true := by rw [h44]; rfl
                            have h5 : ((cc.toNat : Int) == 45) = false := by rw [h44]; rfl
                            have hT : ∃ r, Ix.term ⟨n, fr, ins⟩ = some r ∧ s' = ⟨0, 0, r⟩ := by
                              cases ht : Ix.term ⟨n, fr, ins⟩ with
                              | none => rw [ht] at hst; cases hst
                              | some r => rw [ht] at hst; cases hst; exact ⟨r, rfl, rfl⟩
                            obtain ⟨r, hterm, rfl⟩ := hT
                            clear hst h45 h44
                            obtain ⟨st, hstd⟩ : ∃ st, st = if fr = 0 then n else fr := ⟨_, rfl⟩
                            have hclr : Ix.clr 62 st (n + 1) ins = some r := by rw [hstd]; exact hterm
                            have hst9 : st ≤ 999999 := by rw [hstd]; split; (· exact Hn.out); (· exact Hfr.out)
                            have Hclr := Lib.hid hclr; have Hst9 := Lib.hid hst9; have Hstd := Lib.hid hstd
                            clear hclr hst9 hstd hterm
                            go_upto_if 117 with fail
                            go_cut [11] from 65 to 119 (fun fv W => fv = .int .i64 (st : Int) ∧ W = wr)
                            case first =>
                              by_cases hz : fr = 0
                              · have hz' : ((fr : Int) == 0) = true := by simp [hz]
                                have hsn : st = n := by rw [Hstd.out, if_pos hz]
                                have Hsn := Lib.hid hsn
                                clear hsn hz
                                go_wp2_with fail
                                go_meet
                                exact ⟨by rw [Hsn.out], rfl⟩
                              · have hz' : ((fr : Int) == 0) = false := by simp; exact hz
                                have hsn : st = fr := by rw [Hstd.out, if_neg hz]
                                have Hsn := Lib.hid hsn
                                clear hsn hz
                                go_wp2_with fail
                                go_meet
                                exact ⟨by rw [Hsn.out], rfl⟩
                            case rest =>
                              obtain ⟨rfl, hw⟩ := hcut
                              have hw := hw.symm
                              subst hw
                              have hmax : max (0 : Int) (st : Int) = (st : Int) := by omega
                              obtain ⟨wo, rfl⟩ : ∃ u, u = wr := ⟨_, rfl⟩
                              go_wp2_with fail
                              go_loopw [13] (fun kv wr => ∃ (f k : Nat) (is : List Bool), kv = .int .i64 (k : Int) ∧ 62 ≤ f + k ∧ k ≤ 1000000 ∧ Ix.clr f k (n + 1) is = some r ∧ is.length = 62 ∧ wr.ownsRow w.heap.size 3 1 (.slice (some ⟨g, 0, none⟩) L.length c) L.length (L.map (Value.int .i64)) ∧ wr.ownsRow w.heap.size 3 1 (.slice (some ⟨h, 0, none⟩) T.length ch) T.length (T.map (Value.int .i64)) ∧ wr.ownsRow w.heap.size 4 1 (.slice (some ⟨g5, 0, none⟩) 62 62) 62 ((is).map Value.bool) ∧ Below w.heap.size w wr) (fun kv _ => 62 - (intOf kv).toNat)
                              case atStart => exact ⟨62, st, ins, rfl, by omega, by have := Hst9.out; omega, Hclr.out, Hil.out, Q3.out, Q4.out, Q5.out, Qb.out⟩
                              case round =>
                                clear Hclr Hst9 Hstd Hil Q3 Q4 Q5 Qb hmax
                                obtain ⟨f, k, is, rfl, hfk, hkm, hclr, hisl, hO3, hO4, hO5, hb⟩ := hrel
                                have Q3 := Lib.hid hO3; have Q4 := Lib.hid hO4; have Q5 := Lib.hid hO5; have Qb := Lib.hid hb; have Hisl := Lib.hid hisl; have Hkm := Lib.hid hkm
                                clear hO3 hO4 hO5 hb hkm
                                by_cases hc : k < n + 1 ∧ k < 62
                                · obtain ⟨f, rfl⟩ : ∃ f', f = f' + 1 := ⟨f - 1, by omega⟩
                                  unfold Ix.clr at hclr
                                  rw [if_pos hc] at hclr
                                  obtain ⟨b, hb0⟩ : ∃ b, is[k]? = some b := ⟨_, List.getElem?_eq_getElem (by omega)⟩
                                  have hk1 : (k : Int) ≤ (n : Int) := by omega
                                  have hk2 : (k : Int) < 62 := by omega
                                  have ec : wr.cell? ⟨g5, k, none⟩ = some (.bool b) := by
                                    rw [World.ownsRow.cellAt Q5.out k (by omega), List.getElem?_map, hb0]; rfl
                                  have fz := World.ownsRow.frozenAt Q5.out k
                                  have hstep : Ix.clr f (k + 1) (n + 1) (is.set k false) = some r ∧ (b = false → k = 0) := by
                                    split at hclr
                                    · cases hclr
                                    · next hx =>
                                      refine ⟨hclr, fun e => ?_⟩
                                      subst e
                                      by_cases hk0 : 0 < k
                                      · exact absurd ⟨hb0, hk0⟩ hx
                                      · omega
                                  obtain ⟨hstep, hnb⟩ := hstep
                                  have hrow := World.ownsRow.stored Q5.out k (.bool false)
                                  have hbel := Qb.out.setCell (p := ⟨g5, k, none⟩) Hg5.out (.bool false)
                                  have R3 := Lib.hid (Q3.out.kept hrow.2 (own_apart Q3.out Q5.out (by decide))); have R4 := Lib.hid (Q4.out.kept hrow.2 (own_apart Q4.out Q5.out (by decide))); have R5 := Lib.hid hrow.1; have Rb := Lib.hid hbel
                                  have hset : (is.map Value.bool).set k (.bool false) = (is.set k false).map Value.bool := by rw [List.map_set]
                                  rw [hset] at R5
                                  have Hstep := Lib.hid hstep; have Hc := Lib.hid hc; have Hfk := Lib.hid hfk
                                  have hkk1 : (k : Int) + 1 ≤ 9223372036854775807 := by omega
                                  clear hclr hc hb0 hstep hrow hbel hset hfk hisl
                                  cases b with
                                  | true =>
                                    clear hnb
                                    go_wp2_with fail
                                    go_roundw
                                    case rel => exact ⟨f, k + 1, is.set k false, by go_num, by have := Hfk.out; omega, by have := Hc.out; omega, Hstep.out, by rw [List.length_set]; exact Hisl.out, R3.out, R4.out, R5.out, Rb.out⟩
                                    case measure => have := Hc.out; simp [intOf]; omega
                                  | false =>
                                    obtain rfl := hnb rfl
                                    clear hnb
                                    go_wp2_with fail
                                    go_roundw
                                    case rel => exact ⟨f, 0 + 1, is.set 0 false, by first | rfl | go_num, by have := Hfk.out; omega, by omega, Hstep.out, by rw [List.length_set]; exact Hisl.out, R3.out, R4.out, R5.out, Rb.out⟩
                                    case measure => simp [intOf]
                                · have hr : is = r := by rw [Ix.clr_stop _ _ _ _ hc] at hclr; exact Option.some.inj hclr
                                  subst hr
                                  have hcc : decide ((k : Int) ≤ (n : Int)) = false ∨ ((k : Int) ≤ (n : Int) ∧ decide ((k : Int) < 62) = false) := by
                                    by_cases h : k ≤ n
                                    · exact .inr ⟨by omega, decide_eq_false (by omega)⟩
                                    · exact .inl (decide_eq_false (by omega))
                                  obtain ⟨kz, hkz⟩ : ∃ z : Int, z = (k : Int) := ⟨_, rfl⟩
                                  rw [← hkz] at hcc ⊢
                                  clear hclr hc hfk hisl hkz
                                  rcases hcc with hcc | ⟨hcc, hcc2⟩
                                  · go_wp2_with fail
                                    go_roundw
                                    case rel => exact ⟨i1, ⟨0, 0, is⟩, by first | rfl | rw [Hwi.out], rfl, rfl, Nat.zero_le _, Nat.zero_le _, .inl ⟨by have := Hlt.out; have := Hi1.out; omega, by rw [Hi1.out]; exact Hsc'.out⟩, Hisl.out, Q3.out, Q4.out, Q5.out, Qb.out⟩
                                    case measure => have := Hlt.out; have := Hi1.out; (try rw [Hwi.out]); simp [intOf]; omega
                                  · go_wp2_with fail
                                    go_roundw
                                    case rel => exact ⟨i1, ⟨0, 0, is⟩, by first | rfl | rw [Hwi.out], rfl, rfl, Nat.zero_le _, Nat.zero_le _, .inl ⟨by have := Hlt.out; have := Hi1.out; omega, by rw [Hi1.out]; exact Hsc'.out⟩, Hisl.out, Q3.out, Q4.out, Q5.out, Qb.out⟩
                                    case measure => have := Hlt.out; have := Hi1.out; (try rw [Hwi.out]); simp [intOf]; omega
                          · rw [if_neg h44] at hst
                            cases hst
                            have h5 : ((cc.toNat : Int) == 45) = false := by
                              simp
                              intro h
                              exact h45 (UInt8.toNat_inj.1 (by have : cc.toNat = 45 := by omega
                                                               rw [this]; rfl))
                            have h4 : ((cc.toNat : Int) == 44) = false := by
                              simp
                              intro h
                              exact h44 (UInt8.toNat_inj.1 (by have : cc.toNat = 44 := by omega
                                                               rw [this]; rfl))
                            clear h45 h44
                            go_wp2_with fail
                            go_roundw
                            case rel => exact ⟨i1, ⟨0, fr, ins⟩, by first | rfl | rw [Hwi.out], rfl, rfl, Nat.zero_le _, Hfr.out, .inl ⟨by have := Hlt.out; have := Hi1.out; omega, by rw [Hi1.out]; exact Hsc'.out⟩, Hil.out, Q3.out, Q4.out, Q5.out, Qb.out⟩
                            case measure => have := Hlt.out; have := Hi1.out; (try rw [Hwi.out]); simp [intOf]; omega
                  · have he : i = tx.length := by omega
                    subst he
                    rw [List.drop_length] at hsc
                    obtain ⟨r, hterm, hrm⟩ : ∃ r, Ix.term ⟨n, fr, ins⟩ = some r ∧ r = Ix.memb [] := ⟨_, hsc, rfl⟩
                    have Hrm := Lib.hid hrm
                    clear hsc hlt hi hrm
                    obtain ⟨st, hstd⟩ : ∃ st, st = if fr = 0 then n else fr := ⟨_, rfl⟩
                    have hclr : Ix.clr 62 st (n + 1) ins = some r := by rw [hstd]; exact hterm
                    have hst9 : st ≤ 999999 := by rw [hstd]; split; (· exact Hn.out); (· exact Hfr.out)
                    have Hclr := Lib.hid hclr; have Hst9 := Lib.hid hst9; have Hstd := Lib.hid hstd
                    clear hclr hst9 hstd hterm
                    go_upto_if 117 with fail
                    go_cut [11] from 65 to 119 (fun fv W => fv = .int .i64 (st : Int) ∧ W = wr)
                    case first =>
                      by_cases hz : fr = 0
                      · have hz' : ((fr : Int) == 0) = true := by simp [hz]
                        have hsn : st = n := by rw [Hstd.out, if_pos hz]
                        have Hsn := Lib.hid hsn
                        clear hsn hz
                        go_wp2_with fail
                        go_meet
                        exact ⟨by rw [Hsn.out], rfl⟩
                      · have hz' : ((fr : Int) == 0) = false := by simp; exact hz
                        have hsn : st = fr := by rw [Hstd.out, if_neg hz]
                        have Hsn := Lib.hid hsn
                        clear hsn hz
                        go_wp2_with fail
                        go_meet
                        exact ⟨by rw [Hsn.out], rfl⟩
                    case rest =>
                      obtain ⟨rfl, hw⟩ := hcut
                      have hw := hw.symm
                      subst hw
                      have hmax : max (0 : Int) (st : Int) = (st : Int) := by omega
                      obtain ⟨wo, rfl⟩ : ∃ u, u = wr := ⟨_, rfl⟩
                      go_wp2_with fail
                      go_loopw [13] (fun kv wr => ∃ (f k : Nat) (is : List Bool), kv = .int .i64 (k : Int) ∧ 62 ≤ f + k ∧ k ≤ 1000000 ∧ Ix.clr f k (n + 1) is = some r ∧ is.length = 62 ∧ wr.ownsRow w.heap.size 3 1 (.slice (some ⟨g, 0, none⟩) L.length c) L.length (L.map (Value.int .i64)) ∧ wr.ownsRow w.heap.size 3 1 (.slice (some ⟨h, 0, none⟩) T.length ch) T.length (T.map (Value.int .i64)) ∧ wr.ownsRow w.heap.size 4 1 (.slice (some ⟨g5, 0, none⟩) 62 62) 62 ((is).map Value.bool) ∧ Below w.heap.size w wr) (fun kv _ => 62 - (intOf kv).toNat)
                      case atStart => exact ⟨62, st, ins, rfl, by omega, by have := Hst9.out; omega, Hclr.out, Hil.out, Q3.out, Q4.out, Q5.out, Qb.out⟩
                      case round =>
                        clear Hclr Hst9 Hstd Hil Q3 Q4 Q5 Qb hmax
                        obtain ⟨f, k, is, rfl, hfk, hkm, hclr, hisl, hO3, hO4, hO5, hb⟩ := hrel
                        have Q3 := Lib.hid hO3; have Q4 := Lib.hid hO4; have Q5 := Lib.hid hO5; have Qb := Lib.hid hb; have Hisl := Lib.hid hisl; have Hkm := Lib.hid hkm
                        clear hO3 hO4 hO5 hb hkm
                        by_cases hc : k < n + 1 ∧ k < 62
                        · obtain ⟨f, rfl⟩ : ∃ f', f = f' + 1 := ⟨f - 1, by omega⟩
                          unfold Ix.clr at hclr
                          rw [if_pos hc] at hclr
                          obtain ⟨b, hb0⟩ : ∃ b, is[k]? = some b := ⟨_, List.getElem?_eq_getElem (by omega)⟩
                          have hk1 : (k : Int) ≤ (n : Int) := by omega
                          have hk2 : (k : Int) < 62 := by omega
                          have ec : wr.cell? ⟨g5, k, none⟩ = some (.bool b) := by
                            rw [World.ownsRow.cellAt Q5.out k (by omega), List.getElem?_map, hb0]; rfl
                          have fz := World.ownsRow.frozenAt Q5.out k
                          have hstep : Ix.clr f (k + 1) (n + 1) (is.set k false) = some r ∧ (b = false → k = 0) := by
                            split at hclr
                            · cases hclr
                            · next hx =>
                              refine ⟨hclr, fun e => ?_⟩
                              subst e
                              by_cases hk0 : 0 < k
                              · exact absurd ⟨hb0, hk0⟩ hx
                              · omega
                          obtain ⟨hstep, hnb⟩ := hstep
                          have hrow := World.ownsRow.stored Q5.out k (.bool false)
                          have hbel := Qb.out.setCell (p := ⟨g5, k, none⟩) Hg5.out (.bool false)
                          have R3 := Lib.hid (Q3.out.kept hrow.2 (own_apart Q3.out Q5.out (by decide))); have R4 := Lib.hid (Q4.out.kept hrow.2 (own_apart Q4.out Q5.out (by decide))); have R5 := Lib.hid hrow.1; have Rb := Lib.hid hbel
                          have hset : (is.map Value.bool).set k (.bool false) = (is.set k false).map Value.bool := by rw [List.map_set]
                          rw [hset] at R5
                          have Hstep := Lib.hid hstep; have Hc := Lib.hid hc; have Hfk := Lib.hid hfk
                          have hkk1 : (k : Int) + 1 ≤ 9223372036854775807 := by omega
                          clear hclr hc hb0 hstep hrow hbel hset hfk hisl
                          cases b with
                          | true =>
                            clear hnb
                            go_wp2_with fail
                            go_roundw
                            case rel => exact ⟨f, k + 1, is.set k false, by go_num, by have := Hfk.out; omega, by have := Hc.out; omega, Hstep.out, by rw [List.length_set]; exact Hisl.out, R3.out, R4.out, R5.out, Rb.out⟩
                            case measure => have := Hc.out; simp [intOf]; omega
                          | false =>
                            obtain rfl := hnb rfl
                            clear hnb
                            go_wp2_with fail
                            go_roundw
                            case rel => exact ⟨f, 0 + 1, is.set 0 false, by first | rfl | go_num, by have := Hfk.out; omega, by omega, Hstep.out, by rw [List.length_set]; exact Hisl.out, R3.out, R4.out, R5.out, Rb.out⟩
                            case measure => simp [intOf]
                        · have hr : is = r := by rw [Ix.clr_stop _ _ _ _ hc] at hclr; exact Option.some.inj hclr
                          subst hr
                          have hcc : decide ((k : Int) ≤ (n : Int)) = false ∨ ((k : Int) ≤ (n : Int) ∧ decide ((k : Int) < 62) = false) := by
                            by_cases h : k ≤ n
                            · exact .inr ⟨by omega, decide_eq_false (by omega)⟩
                            · exact .inl (decide_eq_false (by omega))
                          obtain ⟨kz, hkz⟩ : ∃ z : Int, z = (k : Int) := ⟨_, rfl⟩
                          rw [← hkz] at hcc ⊢
                          clear hclr hc hfk hisl hkz
                          rcases hcc with hcc | ⟨hcc, hcc2⟩
                          · go_wp2_with fail
                            go_roundw
                            case rel => exact ⟨i1, ⟨0, 0, is⟩, by first | rfl | rw [Hwi.out], rfl, rfl, Nat.zero_le _, Nat.zero_le _, .inr ⟨Hi1.out, Hrm.out⟩, Hisl.out, Q3.out, Q4.out, Q5.out, Qb.out⟩
                            case measure => have := Hi1.out; (try rw [Hwi.out]); simp [intOf]; omega
                          · go_wp2_with fail
                            go_roundw
                            case rel => exact ⟨i1, ⟨0, 0, is⟩, by first | rfl | rw [Hwi.out], rfl, rfl, Nat.zero_le _, Nat.zero_le _, .inr ⟨Hi1.out, Hrm.out⟩, Hisl.out, Q3.out, Q4.out, Q5.out, Qb.out⟩
                            case measure => have := Hi1.out; (try rw [Hwi.out]); simp [intOf]; omega
                · have hcnd : decide ((i : Int) ≤ (tx.length : Int)) = false := decide_eq_false (by omega)
                  subst hins
                  obtain ⟨ii, hii⟩ : ∃ z : Int, z = (i : Int) := ⟨_, rfl⟩
                  rw [← hii] at hcnd ⊢
                  clear hi Hil hii
                  go_wp2_with fail
                  obtain ⟨wo, rfl⟩ : ∃ u, u = wr := ⟨_, rfl⟩
                  have em := Lib.hid (show ∀ k, k < 62 → wo.cell? ⟨g5, k, none⟩ = some (.bool false) from fun k hk => by
                    rw [World.ownsRow.cellAt Q5.out k (by omega), List.getElem?_map, Ix.memb_get _ _ hk]; rfl)
                  go_loopw [14] (fun kv wr => ∃ k : Nat, k ≤ 62 ∧ kv = .int .i64 (k : Int) ∧ wr = wo) (fun kv _ => 62 - (intOf kv).toNat)
                  case atStart => exact ⟨0, Nat.zero_le _, rfl, rfl⟩
                  case round =>
                    obtain ⟨k, hk, rfl, hw⟩ := hrel
                    have hw := hw.symm
                    subst hw
                    by_cases hlt : k < 62
                    · have e0 := em.out k hlt
                      have hkI : (k : Int) < 62 := by omega
                      have Hlt := Lib.hid hlt
                      have hk1 : (k : Int) + 1 ≤ 9223372036854775807 := by omega
                      clear hlt hk
                      go_wp2_with fail
                      go_roundw
                      case rel => exact ⟨k + 1, by have := Hlt.out; omega, by go_num, trivial⟩
                      case measure => have := Hlt.out; simp [intOf]; omega
                    · have he : k = 62 := by omega
                      subst he
                      clear hlt hk
                      go_wp2_with fail
                      refine (ix_Pages T _ (fun _ => True) _ ((ints_own Q4.out).slice RInt.size _ (fun _ _ => trivial)) (by have := HTl.out; omega) (HL.out.below Qb.out).cnt).mono ?_
                      rw [HTm.out]
                      rintro e w5 ⟨rfl, hb5⟩
                      have Qb5 := Lib.hid (bseq Qb.out hb5)
                      clear hb5
                      have hem := Hem.out
                      cases hLc : L with
                      | nil =>
                        have htx0 : tx = [] := List.isEmpty_iff.1 (hem.2 hLc)
                        subst htx0
                        clear hem
                        go_wp2_with fail
                        refine (law19_fixed w5 (HL.out.below Qb5.out)).mono ?_
                        rintro e w6 ⟨rfl, hb6⟩
                        have Qb6 := Lib.hid (bseq Qb5.out hb6)
                        clear hb6
                        go_wp2_with fail
                        go_ret
                        exact ⟨rfl, Qb6.out⟩
                      | cons a0 r0 =>
                        have hte : tx.isEmpty = false := by
                          cases he : tx.isEmpty with
                          | false => rfl
                          | true => have := hem.1 he; rw [hLc] at this; cases this
                        clear hem
                        go_wp2_with fail
                        refine (law19_fixed w5 (HL.out.below Qb5.out)).mono ?_
                        rintro e w6 ⟨rfl, hb6⟩
                        have Qb6 := Lib.hid (bseq Qb5.out hb6)
                        clear hb6
                        go_wp2_with fail
                        go_ret
                        exact ⟨rfl, Qb6.out⟩
end Go.Proofs.YthoblbdkmlggbaaGreatDoor
