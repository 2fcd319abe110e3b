/- The walks of stetref22.Writes, One, Refs, Same. The walk of stetref22.Same. -/
import Derived.Test.YtibinlpbcoihoaaGreatDoorRuW4
import Derived.Test.YtibinlpbcoihoaaGreatDoorG13
import Derived.BigQuiet
set_option linter.unusedSimpArgs false
set_option linter.unusedVariables false
namespace Go.Proofs.YtibinlpbcoihoaaGreatDoor
open Go.RowKit
theorem own_lit (w : World) (l : List (List UInt8)) (B : Nat) (hB : B ≤ w.heap.size) (hm : l.length ≤ maxLen) : OwnL B 9 1 RStr (w.alloc (.cells (l.flatMap cS).toArray 9)) (.slice (some ⟨w.heap.size, 0, none⟩) l.length l.length) l :=
  ⟨l.flatMap cS, own_built w B 9 1 l.length _ hB (len_flat cS 1 (fun _ => rfl) l) hm, rep_flat (R := RStr) cS (fun _ => rfl) l⟩
set_option maxRecDepth 100000 in
set_option maxHeartbeats 3200000 in
theorem ref22_writes (x : Ru.Rl) (w : World) (ha : x.a.length ≤ 100000) (hb : x.b.length ≤ 100000) : Calls Tryz.prog 18 #[rlV x] w fun e w' => ∃ p c, e = .returned (.slice p (Ru.writes x).length c) ∧ OwnL w.heap.size 9 1 RStr w' (.slice p (Ru.writes x).length c) (Ru.writes x) ∧ Below w.heap.size w w' := by
  obtain ⟨k, a, b⟩ := x
  unfold rlV at *
  dsimp only at *
  have Ha := Lib.hid ha; have Hb := Lib.hid hb
  clear ha hb
  have Hz := Lib.hid (show (w.alloc (.cells #[.int .i64 k, .string ⟨a.toArray⟩, .string ⟨b.toArray⟩] 38)).heap.size = w.heap.size + 1 by simp)
  by_cases hk : Ru.known k = true
  case neg =>
    have hk : Ru.known k = false := by simpa using hk
    unfold Ru.known at hk; simp at hk
    have Hr := Lib.hid (show Ru.writes ⟨k, a, b⟩ = [] by
      unfold Ru.writes Ru.ends; dsimp only
      rw [if_neg (by omega), if_neg (by omega), if_neg (by omega), if_neg (by omega)]; rfl)
    have g1 : (k == 1) = false := beq_eq_false_iff_ne.2 (by omega)
    have g2 : (k == 2) = false := beq_eq_false_iff_ne.2 (by omega)
    have g3 : (k == 3) = false := beq_eq_false_iff_ne.2 (by omega)
    have g4 : (k == 4) = false := beq_eq_false_iff_ne.2 (by omega)
    clear hk
    go_enter Tryz.func18, Tryz.ntmps18
    go_wp2_with fail
    go_ret
    rw [Hr.out]
    exact ⟨none, 0, rfl, OwnL.nil _ _ _ _ _, below_new _ _⟩
  case pos =>
    rcases Ru.known_cases hk with rfl | rfl | rfl | rfl
    · have Hr := Lib.hid (show Ru.writes ⟨1, a, b⟩ = [a ++ [46, 97, 117, 120], a ++ [46, 105, 100, 120], a ++ [46, 108, 111, 103], a ++ [46, 111, 117, 116]] from rfl)
      have s1 : ¬ 9223372036854775807 < a.length + 4 := by have := Ha.out; omega
      clear hk
      go_enter Tryz.func18, Tryz.ntmps18
      go_wp2_with fail
      go_ret
      rw [Hr.out]
      have h := own_lit (w.alloc (.cells #[.int .i64 1, .string ⟨a.toArray⟩, .string ⟨b.toArray⟩] 38)) [a ++ [46, 97, 117, 120], a ++ [46, 105, 100, 120], a ++ [46, 108, 111, 103], a ++ [46, 111, 117, 116]] w.heap.size (by simp) (by unfold maxLen; simp)
      rw [Hz.out] at h
      refine ⟨some ⟨w.heap.size + 1, 0, none⟩, 4, rfl, ?_, bseq (below_new _ _) (below_new _ _)⟩
      have e : ∀ t : List UInt8, (⟨a.toArray⟩ : ByteArray) ++ ⟨t.toArray⟩ = ⟨(a ++ t).toArray⟩ := fun t => append_data a t
      have e0 := e [46, 97, 117, 120]
      have e1 := e [46, 105, 100, 120]
      have e2 := e [46, 108, 111, 103]
      have e3 := e [46, 111, 117, 116]
      first | exact h | (rw [show (⟨a.toArray⟩ : ByteArray) ++ ⟨#[46, 97, 117, 120]⟩ = ⟨(a ++ [46, 97, 117, 120]).toArray⟩ from e0, show (⟨a.toArray⟩ : ByteArray) ++ ⟨#[46, 105, 100, 120]⟩ = ⟨(a ++ [46, 105, 100, 120]).toArray⟩ from e1, show (⟨a.toArray⟩ : ByteArray) ++ ⟨#[46, 108, 111, 103]⟩ = ⟨(a ++ [46, 108, 111, 103]).toArray⟩ from e2, show (⟨a.toArray⟩ : ByteArray) ++ ⟨#[46, 111, 117, 116]⟩ = ⟨(a ++ [46, 111, 117, 116]).toArray⟩ from e3]; exact h) | (simp only [append_data] at *; exact h)
    · have Hr := Lib.hid (show Ru.writes ⟨2, a, b⟩ = [a ++ [46, 98, 98, 108], a ++ [46, 98, 108, 103]] from rfl)
      have s1 : ¬ 9223372036854775807 < a.length + 4 := by have := Ha.out; omega
      clear hk
      go_enter Tryz.func18, Tryz.ntmps18
      go_wp2_with fail
      go_ret
      rw [Hr.out]
      have h := own_lit (w.alloc (.cells #[.int .i64 2, .string ⟨a.toArray⟩, .string ⟨b.toArray⟩] 38)) [a ++ [46, 98, 98, 108], a ++ [46, 98, 108, 103]] w.heap.size (by simp) (by unfold maxLen; simp)
      rw [Hz.out] at h
      refine ⟨some ⟨w.heap.size + 1, 0, none⟩, 2, rfl, ?_, bseq (below_new _ _) (below_new _ _)⟩
      have e : ∀ t : List UInt8, (⟨a.toArray⟩ : ByteArray) ++ ⟨t.toArray⟩ = ⟨(a ++ t).toArray⟩ := fun t => append_data a t
      have e0 := e [46, 98, 98, 108]
      have e1 := e [46, 98, 108, 103]
      first | exact h | (rw [show (⟨a.toArray⟩ : ByteArray) ++ ⟨#[46, 98, 98, 108]⟩ = ⟨(a ++ [46, 98, 98, 108]).toArray⟩ from e0, show (⟨a.toArray⟩ : ByteArray) ++ ⟨#[46, 98, 108, 103]⟩ = ⟨(a ++ [46, 98, 108, 103]).toArray⟩ from e1]; exact h) | (simp only [append_data] at *; exact h)
    · have Hr := Lib.hid (show Ru.writes ⟨3, a, b⟩ = [a ++ [46, 105, 108, 103], a ++ [46, 105, 110, 100]] from rfl)
      have s1 : ¬ 9223372036854775807 < a.length + 4 := by have := Ha.out; omega
      clear hk
      go_enter Tryz.func18, Tryz.ntmps18
      go_wp2_with fail
      go_ret
      rw [Hr.out]
      have h := own_lit (w.alloc (.cells #[.int .i64 3, .string ⟨a.toArray⟩, .string ⟨b.toArray⟩] 38)) [a ++ [46, 105, 108, 103], a ++ [46, 105, 110, 100]] w.heap.size (by simp) (by unfold maxLen; simp)
      rw [Hz.out] at h
      refine ⟨some ⟨w.heap.size + 1, 0, none⟩, 2, rfl, ?_, bseq (below_new _ _) (below_new _ _)⟩
      have e : ∀ t : List UInt8, (⟨a.toArray⟩ : ByteArray) ++ ⟨t.toArray⟩ = ⟨(a ++ t).toArray⟩ := fun t => append_data a t
      have e0 := e [46, 105, 108, 103]
      have e1 := e [46, 105, 110, 100]
      first | exact h | (rw [show (⟨a.toArray⟩ : ByteArray) ++ ⟨#[46, 105, 108, 103]⟩ = ⟨(a ++ [46, 105, 108, 103]).toArray⟩ from e0, show (⟨a.toArray⟩ : ByteArray) ++ ⟨#[46, 105, 110, 100]⟩ = ⟨(a ++ [46, 105, 110, 100]).toArray⟩ from e1]; exact h) | (simp only [append_data] at *; exact h)
    · have Hr := Lib.hid (show Ru.writes ⟨4, a, b⟩ = [b] from rfl)
      clear hk
      go_enter Tryz.func18, Tryz.ntmps18
      go_wp2_with fail
      go_ret
      rw [Hr.out]
      refine ⟨some ⟨w.heap.size + 1, 0, none⟩, 1, rfl, ?_, bseq (below_new _ _) (below_new _ _)⟩
      have h := own_one (w.alloc (.cells #[.int .i64 4, .string ⟨a.toArray⟩, .string ⟨b.toArray⟩] 38)) b w.heap.size (by simp)
      rwa [Hz.out] at h
theorem law22_one (x : Ru.Rl) (w : World) : Calls Tryz.prog 15 #[rlV x] w fun e w' => e = .returned (rlV x) ∧ Below w.heap.size w w' := by
  obtain ⟨k, a, b⟩ := x
  unfold rlV
  dsimp only
  go_enter Tryz.func15, Tryz.ntmps15
  go_wp2_with fail
  refine ret_one (v := .agg #[.int .i64 k, .string ⟨a.toArray⟩, .string ⟨b.toArray⟩]) rfl rfl (by go_simp) rfl ⟨rfl, ?_⟩
  exact bseq (below_new _ _) (below_new _ _)
theorem takeS {α : Type} (l : List α) (k : Nat) (x : α) (h : l[k]? = some x) : l.take (k + 1) = l.take k ++ [x] := by rw [List.take_add_one, h]; rfl
def RRl (x : Ru.Rl) (vs : List Value) : Prop := vs = [.int .i64 x.kind, .string ⟨x.a.toArray⟩, .string ⟨x.b.toArray⟩]
theorem RRl.size (x : Ru.Rl) (vs : List Value) (h : RRl x vs) : vs.length = 3 := by rw [h]; rfl
theorem rule_info : (Tryz.prog.info? 36).map (fun i => (i.zero, i.size, i.bytes)) = some (some (.agg #[.int .i64 0, .string ⟨#[]⟩, .string ⟨#[]⟩]), 3, 40) := by kernel_rfl
theorem rrule_info : (Tryz.prog.info? 38).map (fun i => (i.zero, i.size, i.bytes)) = some (some (.agg #[.int .i64 0, .string ⟨#[]⟩, .string ⟨#[]⟩]), 3, 40) := by kernel_rfl
theorem load_rule (g o : Nat) (x : Ru.Rl) (w : World) (h0 : w.cell? ⟨g, o, none⟩ = some (.int .i64 x.kind)) (h1 : w.cell? ⟨g, o + 1, none⟩ = some (.string ⟨x.a.toArray⟩)) (h2 : w.cell? ⟨g, o + 2, none⟩ = some (.string ⟨x.b.toArray⟩)) :
    (loadVar 36 ⟨g, o, none⟩).run Tryz.prog w = .ok (rlV x) w := by
  unfold rlV
  go_simp
/-- the cells of one of a row of rules -/
theorem rl_cells {S : Nat → Prop} {w : World} {b o n c : Nat} {l : List Ru.Rl} (h : SliceIn S 3 RRl w (.slice (some ⟨b, o, none⟩) n c) l) {i : Nat} {x : Ru.Rl} (hx : l[i]? = some x) :
    w.cell? ⟨b, o + i * 3, none⟩ = some (.int .i64 x.kind) ∧ w.cell? ⟨b, o + i * 3 + 1, none⟩ = some (.string ⟨x.a.toArray⟩) ∧ w.cell? ⟨b, o + i * 3 + 2, none⟩ = some (.string ⟨x.b.toArray⟩) := by
  obtain ⟨p, c', he, _, _, hat⟩ := h
  obtain ⟨b', o', vs, hp, _, _, hR, hc⟩ := hat i x hx
  simp only [Value.slice.injEq] at he
  obtain ⟨rfl, _, _⟩ := he
  cases hp
  have hR : vs = _ := hR
  subst hR
  exact ⟨hc 0 _ rfl, hc 1 _ rfl, hc 2 _ rfl⟩
theorem rl_some {S : Nat → Prop} {w : World} {p : Option Addr} {n c : Nat} {l : List Ru.Rl} (h : SliceIn S 3 RRl w (.slice p n c) l) {i : Nat} {x : Ru.Rl} (hx : l[i]? = some x) : ∃ b o, p = some ⟨b, o, none⟩ := by
  obtain ⟨p', c', he, _, _, hat⟩ := h
  obtain ⟨b', o', vs, hp, _⟩ := hat i x hx
  simp only [Value.slice.injEq] at he
  obtain ⟨rfl, _, _⟩ := he
  exact ⟨b', o', hp⟩
set_option maxRecDepth 100000 in
set_option maxHeartbeats 1600000 in
theorem law22_refs (l : List Ru.Rl) (v : Value) (S : Nat → Prop) (w : World) (hS : SliceIn S 3 RRl w v l) (hl : l.length ≤ 100000) :
    Calls Tryz.prog 10 #[v] w fun e w' => ∃ g c : Nat, e = .returned (.slice (some ⟨g, 0, none⟩) l.length c) ∧ OwnL w.heap.size 38 3 RRl w' (.slice (some ⟨g, 0, none⟩) l.length c) l ∧ Below w.heap.size w w' := by
  obtain ⟨i0, hi, hz0, hz1, hz2⟩ := info_parts rrule_info
  have Hi := Lib.hid hi; have Hz0 := Lib.hid hz0; have Hz1 := Lib.hid hz1; have Hz2 := Lib.hid hz2; clear hi hz0 hz1 hz2
  obtain ⟨pa, cap, rfl⟩ : ∃ p c, v = .slice p l.length c := by obtain ⟨p, c, h, _⟩ := hS; exact ⟨p, c, h⟩
  have HS := Lib.hid hS; have Hl := Lib.hid hl
  clear hS hl
  have hO := Lib.hid (OwnL.made w.heap.size 38 3 RRl w (Nat.le_refl _))
  have hB := Lib.hid (below_new w (.cells #[] 38))
  go_enter Tryz.func10, Tryz.ntmps10
  go_wp2_with fail
  go_loopw [3, 4] (fun ov iv wr => ∃ k g c : Nat, k ≤ l.length ∧ iv = .int .i64 (k : Int) ∧ ov = .slice (some ⟨g, 0, none⟩) k c ∧ OwnL w.heap.size 38 3 RRl wr ov (l.take k) ∧ Below w.heap.size w wr) (fun _ iv _ => l.length - (intOf iv).toNat)
  case atStart => exact ⟨0, _, _, Nat.zero_le _, rfl, rfl, hO.out, hB.out⟩
  case round =>
    clear hO hB
    obtain ⟨k, g, c, hk, rfl, rfl, hO, hb⟩ := hrel
    by_cases hlt : k < l.length
    · obtain ⟨x, hx⟩ : ∃ x, l[k]? = some x := ⟨_, List.getElem?_eq_getElem hlt⟩
      obtain ⟨b, off, rfl⟩ := rl_some HS.out hx
      obtain ⟨c0, c1, c2⟩ := rl_cells (HS.out.below hb (fun _ _ _ h => h)) hx
      have hlt' : (k : Int) < (l.length : Int) := by omega
      have hwk := f2_w1 k (by have := Hl.out; omega)
      have hsn := takeS l k x hx
      have hll : (l.take k).length = k := by rw [List.length_take]; omega
      obtain ⟨fl, hown, hrep⟩ := hO
      rw [hll] at hown
      have Hown := Lib.hid hown; have Hrep := Lib.hid hrep; have Hb := Lib.hid hb; have Hsn := Lib.hid hsn; have Hlt := Lib.hid hlt; have Hwk := Lib.hid hwk; have Hll := Lib.hid hll
      have Hm1 := Lib.hid (show k + 1 ≤ maxLen by have := Hl.out; unfold maxLen; omega)
      have Hn1 := Lib.hid (show (k + 1) * 40 ≤ 140737488355328 by have := Hl.out; omega)
      have H0W := Lib.hid hb.size
      clear hown hrep hb hsn hlt hwk hx hk hll
      go_wp2_with first
        | (go_at_call 15; have ho := law22_one x; unfold rlV at ho; refine (ho _).mono ?_; clear ho; rintro e w2 ⟨rfl, hb2⟩; have Hb2 := Lib.hid hb2; have own2 := Lib.hid (own_below Hown.out hb2); have H0W2 := Lib.hid (Nat.le_trans H0W.out hb2.size); clear hb2)
        | (at_builtin; go_loud (refine wpList_append1 rfl (.tmp 12) (.tmp 18) 27 rfl w.heap.size 38 i0 (.agg #[.int .i64 0, .string ⟨#[]⟩, .string ⟨#[]⟩]) 3 40 Tryz.underlying27 Hi.out Hz0.out Hz1.out Hz2.out rfl (by decide) _ _ _ own2.out rfl [.int .i64 x.kind, .string ⟨x.a.toArray⟩, .string ⟨x.b.toArray⟩] rfl (by simp) rfl (by simp [Value.oneCell']) Hm1.out Hn1.out H0W2.out ?_); intro v2 w9 own3 g2 at2; obtain ⟨p2, cap2, hv2, _⟩ := own3.form (Nat.succ_pos _); subst hv2)
      go_roundw
      case rel =>
        refine ⟨k + 1, p2, cap2, by have := Hlt.out; omega, by first | rfl | rw [Hwk.out], rfl, ?_, (Hb.out.trans (Hb2.out.mono Hb.out.size)).grown g2 H0W2.out (fun q e => (World.ownsRow.lt own2.out q e).1)⟩
        rw [Hsn.out]
        refine ⟨_, ?_, RepRow.snoc (R := RRl) (x := x) (vs := [.int .i64 x.kind, .string ⟨x.a.toArray⟩, .string ⟨x.b.toArray⟩]) rfl Hrep.out⟩
        rw [List.length_append, Hll.out]
        exact own3
      case measure => have := Hlt.out; (try rw [Hwk.out]); simp [intOf]; omega
    · have he : k = l.length := by omega
      subst he
      rw [List.take_length] at hO
      have HO := Lib.hid hO; have Hb := Lib.hid hb
      clear hO hb hlt hk
      go_wp2_with fail
      go_ret
      exact ⟨g, c, rfl, HO.out, Hb.out⟩
end Go.Proofs.YtibinlpbcoihoaaGreatDoor
set_option linter.unusedSimpArgs false
set_option linter.unusedVariables false
namespace Go.Proofs.YtibinlpbcoihoaaGreatDoor
open Go.RowKit
set_option maxRecDepth 100000 in
set_option maxHeartbeats 3200000 in
theorem ref22_same (A B : List Ru.Rl) (va vb : Value) (S S' : Nat → Prop) (w : World) (hA : SliceIn S 3 RRl w va A) (hB : SliceIn S' 3 RRl w vb B) :
    Calls Tryz.prog 9 #[va, vb] w fun e w' => e = .returned (.bool (decide (A = B))) ∧ Below w.heap.size w w' := by
  have hAm := hA.bound; have hBm := hB.bound
  obtain ⟨pa, ca, rfl⟩ : ∃ p c, va = .slice p A.length c := by obtain ⟨p, c, h, _⟩ := hA; exact ⟨p, c, h⟩
  obtain ⟨pb, cb, rfl⟩ : ∃ p c, vb = .slice p B.length c := by obtain ⟨p, c, h, _⟩ := hB; exact ⟨p, c, h⟩
  have HA := Lib.hid hA; have HB := Lib.hid hB; clear hA hB
  have HAm := Lib.hid hAm; clear hAm hBm
  by_cases hl : A.length = B.length
  · have hl' : ((A.length : Int) != (B.length : Int)) = false := by simp [hl]
    have Hl := Lib.hid hl; clear hl
    go_enter Tryz.func9, Tryz.ntmps9
    go_wp2_with fail
    go_loopw [5] (fun i wr => ∃ k : Nat, k ≤ A.length ∧ i = .int .i64 (k : Int) ∧ A.take k = B.take k ∧ Below w.heap.size w wr) (fun i _ => A.length - (intOf i).toNat)
    case atStart => exact ⟨0, Nat.zero_le _, rfl, rfl, Below.refl _ _⟩
    case round =>
      obtain ⟨k, hk, rfl, ht, hb⟩ := hrel
      by_cases hlt : k < A.length
      · obtain ⟨x, hx⟩ : ∃ x, A[k]? = some x := ⟨_, List.getElem?_eq_getElem hlt⟩
        have hlt2 : k < B.length := by have := Hl.out; omega
        obtain ⟨y, hy⟩ : ∃ y, B[k]? = some y := ⟨_, List.getElem?_eq_getElem hlt2⟩
        obtain ⟨b, off, rfl⟩ := rl_some HA.out hx
        obtain ⟨b2, off2, rfl⟩ := rl_some HB.out hy
        obtain ⟨c0, c1, c2⟩ := rl_cells (HA.out.below hb (fun _ _ _ h => h)) hx
        obtain ⟨d0, d1, d2⟩ := rl_cells (HB.out.below hb (fun _ _ _ h => h)) hy
        have hlt' : (k : Int) < (A.length : Int) := by omega
        have hlt2' : (k : Int) < (B.length : Int) := by omega
        have Hwk := Lib.hid (f2_w1 k (by have := HAm.out; omega))
        have Hx := Lib.hid hx; have Hy := Lib.hid hy; have Ht := Lib.hid ht; have Hb := Lib.hid hb; have Hlt := Lib.hid hlt; have Hlt2 := Lib.hid hlt2
        have hne : x ≠ y → A ≠ B := fun h e => by
          have h1 := Hx.out
          rw [e, Hy.out] at h1
          exact h (Option.some.inj h1).symm
        have Hne := Lib.hid hne
        clear hx hy ht hb hlt hlt2 hk hne
        obtain ⟨xk, xa, xb⟩ := x
        obtain ⟨yk, ya, yb⟩ := y
        dsimp only at c0 c1 c2 d0 d1 d2
        by_cases hxy : xk = yk ∧ xa = ya ∧ xb = yb
        · obtain ⟨rfl, rfl, rfl⟩ := hxy
          have Htk := Lib.hid (show A.take (k + 1) = B.take (k + 1) by rw [takeS _ _ _ Hx.out, takeS _ _ _ Hy.out, Ht.out])
          go_wp2_with fail
          go_quiet (fail)
          go_wp2_with fail
          go_roundw
          case rel => exact ⟨k + 1, by have := Hlt.out; omega, by first | rfl | rw [Hwk.out], Htk.out, below_drewN Hb.out _⟩
          case measure => have := Hlt.out; (try rw [Hwk.out]); simp [intOf]; omega
        · have Hn := Lib.hid (Hne.out (by simpa using hxy))
          by_cases hk : xk = yk
          · subst hk
            by_cases ha : xa = ya
            · subst ha
              have hbb : (xb == yb) = false := beq_eq_false_iff_ne.2 (by simpa using hxy)
              clear hxy
              go_wp2_with fail
              go_quiet (fail)
              go_wp2_with fail
              go_ret
              exact ⟨ret_bool (by simp [Hn.out]), below_drewN Hb.out _⟩
            · have haa : (xa == ya) = false := beq_eq_false_iff_ne.2 ha
              clear hxy ha
              cases hbb : (xb == yb) with
              | true =>
                obtain rfl := eq_of_beq hbb
                clear hbb
                go_wp2_with fail
                go_quiet (fail)
                go_wp2_with fail
                go_ret
                exact ⟨ret_bool (by simp [Hn.out]), below_drewN Hb.out _⟩
              | false =>
                go_wp2_with fail
                go_quiet (fail)
                go_wp2_with fail
                go_ret
                exact ⟨ret_bool (by simp [Hn.out]), below_drewN Hb.out _⟩
          · have hkk : (xk == yk) = false := beq_eq_false_iff_ne.2 hk
            clear hxy hk
            cases haa : (xa == ya) with
            | true =>
              obtain rfl := eq_of_beq haa
              clear haa
              cases hbb : (xb == yb) with
              | true =>
                obtain rfl := eq_of_beq hbb
                clear hbb
                go_wp2_with fail
                go_quiet (fail)
                go_wp2_with fail
                go_ret
                exact ⟨ret_bool (by simp [Hn.out]), below_drewN Hb.out _⟩
              | false =>
                go_wp2_with fail
                go_quiet (fail)
                go_wp2_with fail
                go_ret
                exact ⟨ret_bool (by simp [Hn.out]), below_drewN Hb.out _⟩
            | false =>
              cases hbb : (xb == yb) with
              | true =>
                obtain rfl := eq_of_beq hbb
                clear hbb
                go_wp2_with fail
                go_quiet (fail)
                go_wp2_with fail
                go_ret
                exact ⟨ret_bool (by simp [Hn.out]), below_drewN Hb.out _⟩
              | false =>
                go_wp2_with fail
                go_quiet (fail)
                go_wp2_with fail
                go_ret
                exact ⟨ret_bool (by simp [Hn.out]), below_drewN Hb.out _⟩
      · have he : k = A.length := by omega
        subst he
        have Hab := Lib.hid (show A = B by rw [List.take_length, Hl.out, List.take_length] at ht; exact ht)
        have Hb := Lib.hid hb
        clear hlt hk ht hb
        go_wp2_with fail
        go_ret
        exact ⟨ret_bool (by simp [Hab.out]), Hb.out⟩
  · have hl' : ((A.length : Int) != (B.length : Int)) = true := by simp; omega
    have Hn := Lib.hid (show A ≠ B from fun h => hl (by rw [h]))
    clear hl
    go_enter Tryz.func9, Tryz.ntmps9
    go_wp2_with fail
    go_ret
    exact ⟨ret_bool (by simp [Hn.out]), Below.refl _ _⟩
end Go.Proofs.YtibinlpbcoihoaaGreatDoor
