/- The walk of index.places' iterator. -/
import Derived.Test.YthoblbdkmlggbaaGreatDoorIxM
import Derived.Test.YthoblbdkmlggbaaGreatDoorIxG
import Derived.RangeFuncNested
import Derived.Shelf.Abstract
import Derived.Shelf.RegionOpen
import Derived.OwnWalkIn
import Derived.TacticsInMore
import Derived.LoopNIn
import Derived.LoopIn
set_option linter.unusedSimpArgs false
set_option linter.unusedVariables false
namespace Go.Proofs.YthoblbdkmlggbaaGreatDoor
open Go.RowKit
open Go.Maps (Keyed)
open Go.MapKept Go.WideElems Go.WideMaps
theorem place_info : (Tryz.prog.info? 62).map (fun i => (i.zero, i.size, i.bytes)) = some (some (.agg #[.string ⟨#[]⟩, .string ⟨#[]⟩, .bool false]), 3, 40) := by kernel_rfl
abbrev Yd := Ix.Pl × Value
def encY (x : Yd) : Array Value := #[plV x.1, x.2]
/-- what is there: as places -/
theorem has_place {w : World} {n base : Nat} {D : DataW Value} {g : Ix.Pl → Value} {f : Ix.Pl → List Int} {nb : Option Nat} (hP : PRow w base n D g f nb) {key : Value} {kl : Lit} (hk : keyOf Tryz.prog 62 key = some kl) (hh : Maps.has D kl = true) :
    ∃ p, Bd p ∧ f p ≠ [] ∧ kl = klit p ∧ key = plV p := by
  obtain ⟨p, hp, h1, h2⟩ := hP.has1 kl hh
  refine ⟨p, hp, h2, h1, ?_⟩
  subst h1
  exact pl_keyed.inj (a := key) (b := plV p) (l := klit p) hk (klit_key p hp)
/-- a range over the map, under way: which places have come -/
structure Rg (w : World) (b r n : Nat) (D : DataW Value) (seen : List BPl) (left : Lit → Bool) (cnt : Nat) : Prop where
  rn : w.ranges Tryz.prog 62 R0 b r n D left cnt
  lf : ∀ p, Bd p → (left (klit p) = true ↔ (Maps.has D (klit p) = true ∧ p ∉ seen.map (·.1)))
  lh : ∀ kl, left kl = true → Maps.has D kl = true
  nd : (seen.map (·.1)).Nodup
  hs : ∀ p ∈ seen.map (·.1), Maps.has D (klit p) = true
  ln : seen.length + cnt ≤ n
theorem Rg.kept {w w' : World} {b r n : Nat} {D : DataW Value} {seen : List BPl} {left : Lit → Bool} {cnt : Nat} {row : Option Nat} (h : Rg w b r n D seen left cnt) (hg : w.grownBy w' row) (hb : some b ≠ row) (hr : some r ≠ row) : Rg w' b r n D seen left cnt :=
  ⟨h.rn.kept hg hb hr, h.lf, h.lh, h.nd, h.hs, h.ln⟩
theorem Rg.below {w w' : World} {b r n : Nat} {D : DataW Value} {seen : List BPl} {left : Lit → Bool} {cnt : Nat} (h : Rg w b r n D seen left cnt) (hb : Below w.heap.size w w') : Rg w' b r n D seen left cnt :=
  h.kept (grown_of_below hb none) (by simp) (by simp)
theorem Rg.next {w : World} {b r n : Nat} {D : DataW Value} {seen : List BPl} {left : Lit → Bool} {cnt : Nat} (h : Rg w b r n D seen left cnt) {w0 : World} {base m : Nat} {g : Ix.Pl → Value} {f : Ix.Pl → List Int} {nb : Option Nat} (hP : PRow w0 base m D g f nb) (ty : TypeId) :
    (cnt = 0 ∧ (∀ p, Bd p → Maps.has D (klit p) = true → p ∈ seen.map (·.1)) ∧ (Instr.next (.pointer (some ⟨r, 0, none⟩)) false ty).run Tryz.prog w = .ok (.tuple #[.bool false]) w) ∨
    ∃ (p : BPl) (v : Value) (w' : World) (left' : Lit → Bool) (cnt' : Nat), (Instr.next (.pointer (some ⟨r, 0, none⟩)) false ty).run Tryz.prog w = .ok (.tuple #[.bool true, plV p.1, v]) w' ∧ Rg w' b r n D (seen ++ [p]) left' cnt' ∧ cnt' < cnt ∧
      w.grownBy w' (some r) ∧ w'.heap.size = w.heap.size ∧ (Instr.entry (.pointer (some ⟨r, 0, none⟩))).run Tryz.prog w' = .ok (.tuple #[plV p.1, v]) w' := by
  rcases h.rn.next pl_keyed ty with ⟨h0, hl, hrun⟩ | ⟨key, v, kl, y, w', cnt', hkey, hlk, hv, hat, hrun, hrg, hlt, hgr, hsz, hen⟩
  · refine .inl ⟨h0, fun p hp hh => ?_, hrun⟩
    by_cases hm : p ∈ seen.map (·.1)
    · exact hm
    · have := (h.lf p hp).2 ⟨hh, hm⟩
      rw [hl] at this; cases this
  · obtain ⟨p, hp, _, h1, h2⟩ := has_place hP hkey (h.lh kl hlk)
    subst h1; subst h2
    have hns := ((h.lf p hp).1 hlk).2
    refine .inr ⟨⟨p, hp⟩, v, w', _, cnt', hrun, ⟨hrg, fun q hq => ?_, fun kl hk => ?_, ?_, fun q hq => ?_, ?_⟩, hlt, hgr, hsz, hen⟩
    · rw [Bool.and_eq_true, h.lf q hq, List.map_append, List.mem_append]
      by_cases e : q = p
      · subst e
        have : (klit q).sameKey (klit q) = true := WideAt.sameKey_self (klit_lit hq)
        simp [this]
      · have : (klit q).sameKey (klit p) = false := Go.Maps.sameKey_ne (fun h => e (klit_inj hq hp h))
        simp [this, e]
    · rw [Bool.and_eq_true] at hk; exact h.lh kl hk.1
    · rw [List.map_append, List.nodup_append]
      exact ⟨h.nd, by simp, fun a ha c hc e => by simp at hc; subst hc; subst e; exact hns ha⟩
    · rw [List.map_append, List.mem_append] at hq
      rcases hq with hq | hq
      · exact h.hs q hq
      · simp at hq; subst hq; exact h.lh _ hlk
    · rw [List.length_append]
      have := h.ln
      simp; omega
theorem Rg.start {w : World} {b n : Nat} {D : DataW Value} (h : w.ownsMap Tryz.prog 62 R0 b n D) :
    ∃ w', (Instr.range 60 (.map (some b))).run Tryz.prog w = .ok (.pointer (some ⟨w.heap.size, 0, none⟩)) w' ∧ Rg w' b w.heap.size n D [] (Maps.has D) (Maps.size D) ∧ w.grownBy w' none ∧ w'.heap.size = w.heap.size + 1 := by
  obtain ⟨w', h1, h2, h3, h4⟩ := h.range pl_keyed Tryz.underlying60
  exact ⟨w', h1, ⟨h2, fun p hp => by simp, fun _ h => h, List.Pairwise.nil, fun _ h => by simp at h, by have := h.size_le; simp; exact this⟩, h3, h4⟩
theorem ix_sort_none (p : Option Addr) (cap : Nat) (fv : Value) (w : World) : Calls Tryz.prog 56 #[.slice p 0 cap, fv] w fun e w' => e = .returned (.tuple #[]) ∧ w' = w :=
  AnyF.slices_SortFunc_none Tryz.lSF p cap fv w
theorem ix_sort_any (B e : Nat) (l : List BPl) (v : Value) (fl : List Value) (w : World) (h : w.ownsRow B e 3 v l.length fl) (hr : RepRow RPl (l.map (·.1)) fl) (hn : (l.map (·.1)).Nodup) (hl : l.length ≤ 100000000) (hB : B ≤ w.heap.size) :
    ∃ po co, v = .slice po l.length co ∧ Calls Tryz.prog 56 #[.slice po l.length co, .func (.func 57) #[] #[]] w fun e w' => e = .returned (.tuple #[]) ∧
      ∃ s : List Ix.Pl, SliceIn (fun k => B ≤ k) 3 RPl w' (.slice po s.length co) s ∧ s.length = l.length ∧ Ix.Up Ix.cp s ∧ (∀ p, p ∈ s ↔ p ∈ l.map (·.1)) ∧ Below B w w' := by
  rcases id h.2 with ⟨hv, h0⟩ | ⟨g, cap, cur, hv, hg, _, _, _, _, _⟩
  · have hl0 : l = [] := List.length_eq_zero_iff.1 h0
    subst hl0
    refine ⟨none, 0, hv, (ix_sort_none none 0 _ w).mono ?_⟩
    rintro e w' ⟨rfl, rfl⟩
    exact ⟨rfl, [], SliceIn.nil _ _ _ _, rfl, List.Pairwise.nil, fun p => by simp, Below.refl _ _⟩
  · subst hv
    refine ⟨_, cap, rfl, (ix_sort B g cap e l fl w h hr hn hl).mono ?_⟩
    rintro e w' ⟨rfl, s, h1, h2, h3, h4, h5⟩
    exact ⟨rfl, s, h1.kept (fun k e => by rw [e]; exact hg) (Nat.le_refl _) (fun _ _ _ => rfl) (fun _ _ _ h => h), h2, h3, h4, (Below.refl B w).grown h5 hB (fun k e => by simp only [Option.some.injEq] at e; omega)⟩
theorem om_kept {w w' : World} {b n : Nat} {D : DataW Value} (h : w.ownsMap Tryz.prog 62 R0 b n D) (hb : w'.heap[b]? = w.heap[b]?) : w'.ownsMap Tryz.prog 62 R0 b n D := by
  obtain ⟨es, clock, h1, F, h2, h3⟩ := h
  exact ⟨es, clock, hb.trans h1, F, h2, h3⟩
theorem look_held {w : World} {b n : Nat} {D : DataW Value} {p : Ix.Pl} {v : Value} (h : w.ownsMap Tryz.prog 62 R0 b n D) (hp : Bd p) (hat : D.atKey (klit p) (.held nilS) = .held v) : (Instr.lookup 60 (.map (some b)) (plV p) false).run Tryz.prog w = .ok v w := by
  obtain ⟨u, ps, h1, h2⟩ := h.lookup pl_keyed Tryz.underlying60 (z := nilS) (by kernel_rfl) (zd := .held nilS) (zp := []) rfl (klit_key p hp)
  rw [hat] at h2
  unfold R0 at h2
  simp only [Option.some.injEq, Prod.mk.injEq, DataW.held.injEq] at h2
  rw [h1, h2.1]
set_option maxRecDepth 100000 in
set_option maxHeartbeats 1600000 in
theorem ix_iter {m : Nat} (W1 : World) (b base n Bm : Nat) (D : DataW Value) (g : Ix.Pl → Value) (f : Ix.Pl → List Int) (nb : Option Nat) (hD : W1.ownsMap Tryz.prog 62 R0 b n D) (hP : PRow W1 base n D g f nb) (hbb : b < base)
    (hBm : W1.cell? ⟨Bm, 0, none⟩ = some (.map (some b))) (hBl : Bm < W1.heap.size) (hBb : Bm ≠ b) (hn : n ≤ 1000000) (L : Nat) (hL : L < W1.heap.size) (E : Nat → Prop) (hbE : ¬ E b ∧ b ≠ L) (hBE : ¬ E Bm ∧ Bm ≠ L) (hEL : ∀ k, E k → k < W1.heap.size)
    (ks : List Ix.Pl) (hks : Ix.Up Ix.cp ks) (hkm : ∀ p, p ∈ ks ↔ (Bd p ∧ f p ≠ [])) (J : Nat → List Yd → World → Prop)
    (hJ1 : ∀ N pre A B, J N pre A → Turn (fun k => k < A.heap.size ∧ k ≠ b) A B → J N pre B)
    (hJ0 : ∀ W, Turn (fun k => k < W1.heap.size ∧ k ≠ b) W1 W → J W.heap.size [] W)
    (hY : ∀ N pre x W, J N pre W → (pre ++ [x]) <+: ks.map (fun p => (p, g p)) → YieldAt Fence.wide m Tryz.prog L (encY x) W fun e W' => e = .returned (.bool true) ∧ J N (pre ++ [x]) W' ∧ Turn (fun k => k < N ∧ ¬ E k ∧ k ≠ L) W W') :
    CallsIn Fence.wide m Tryz.prog 55 #[.func (.yield L) #[] #[], .pointer (some ⟨Bm, 0, none⟩)] W1 fun e W' => (∃ v, e = .returned v) ∧ ∃ N, J N (ks.map fun p => (p, g p)) W' := by
  rw [callsIn_wide]
  obtain ⟨i0, hi, hz0, hz1, hz2⟩ := info_parts place_info
  have Hi := Lib.hid hi; have Hz0 := Lib.hid hz0; have Hz1 := Lib.hid hz1; have Hz2 := Lib.hid hz2; clear hi hz0 hz1 hz2
  obtain ⟨W2, hrun2, hR2, hg2, hzw2⟩ := Rg.start hD
  have hB2 : Below W1.heap.size W1 W2 := (Below.refl _ _).grown hg2 (Nat.le_refl _) (fun k e => by cases e)
  have HD := Lib.hid hD; have HP := Lib.hid hP; have HR2 := Lib.hid hR2; have HB2 := Lib.hid hB2; have Hn := Lib.hid hn; have HJ1 := Lib.hid hJ1; have HJ0 := Lib.hid hJ0; have HY := Lib.hid hY; have Hks := Lib.hid hks; have Hkm := Lib.hid hkm; have Hbb := Lib.hid hbb; have Hside := Lib.hid (And.intro hbE (And.intro hBE (And.intro hBl (And.intro hL hEL)))); have HBm := Lib.hid hBm; have HBb := Lib.hid hBb; have Hzw2 := Lib.hid hzw2
  clear hD hP hR2 hB2 hn hJ1 hJ0 hY hks hkm hbb hbE hBE hBl hL hEL hg2 hBb hzw2
  generalize hr : W1.heap.size = r at *
  go_enter Tryz.func55, Tryz.ntmps55
  go_wp2_with fail
  have hr1 : r + 1 ≤ W2.heap.size := by have := Hzw2.out; omega
  go_loopw [3] (fun lv wr => ∃ (seen : List BPl) (left : Lit → Bool) (cnt : Nat) (fl : List Value), wr.ownsRow (r + 1) 62 3 lv seen.length fl ∧ RepRow RPl (seen.map (·.1)) fl ∧ Rg wr b r n D seen left cnt ∧ Below r W1 wr ∧ r + 1 ≤ wr.heap.size) (fun _ wr => wr.rangeLeft b r)
  case atStart => exact ⟨[], _, _, [], ⟨rfl, .inl ⟨rfl, rfl⟩⟩, rfl, HR2.out, HB2.out, hr1⟩
  case round =>
    obtain ⟨seen, left, cnt, fl, hown, hrep, hrg, hbl, hsz⟩ := hrel
    have hle := hrg.rn.left_eq
    have Hown := Lib.hid hown; have Hrep := Lib.hid hrep; have Hbl := Lib.hid hbl; have Hsz := Lib.hid hsz; have Hle := Lib.hid hle; have Hrg := Lib.hid hrg
    clear hown hrep hbl hsz hle hrg
    rcases Hrg.out.next HP.out 0 with ⟨h0, hall, hrun⟩ | ⟨p, v, w3, left', cnt', hrun, hrg', hlt, hgr, hsz3, hen⟩
    · have hnd := Hrg.out.nd
      have hlen : seen.length ≤ 100000000 := by have := Hrg.out.ln; have := Hn.out; omega
      obtain ⟨po, co, hu3, hsort⟩ := ix_sort_any (r + 1) 62 seen u3 fl wr Hown.out Hrep.out hnd hlen Hsz.out
      subst hu3
      have Hsort := Lib.hid hsort; have Hall := Lib.hid hall; have H0 := Lib.hid h0
      clear hsort hall h0 hnd hlen
      go_wp2_with (go_at_call 56; refine Hsort.out.mono ?_; rintro e w5 ⟨rfl, s, hS, hsl, hup, hmem, hb5⟩; have HS := Lib.hid hS; have Hsl := Lib.hid hsl; have Hup := Lib.hid hup; have Hmem := Lib.hid hmem; have Hb5 := Lib.hid hb5; clear hS hsl hup hmem hb5)
      have hblr : b < r := by have := HD.out.lt; omega
      have hks : s = ks := by
        refine Ix.Up.unique Ix.ordP _ _ Hup.out Hks.out fun p => ?_
        rw [Hmem.out, Hkm.out]
        constructor
        · intro hp
          have h1 := Hrg.out.hs p hp
          have hbp : Bd p := by
            obtain ⟨y, _, rfl⟩ := List.mem_map.1 hp
            exact y.2
          obtain ⟨q, hq, h2, h3⟩ := HP.out.has1 _ h1
          rw [klit_inj hbp hq h2]
          exact ⟨klit_inj hbp hq h2 ▸ hbp, h3⟩
        · rintro ⟨h1, h2⟩
          exact Hall.out p h1 (HP.out.has2 p h1 h2)
      have hsl := Hsl.out
      rw [hks] at hsl
      have hS5 : SliceIn (fun k => r + 1 ≤ k ∧ k < w5.heap.size) 3 RPl w5 (.slice po ks.length co) ks := by
        rw [← hks]
        exact SliceIn.moved HS.out (fun k h hlt => ⟨⟨h, hlt⟩, rfl⟩) (Nat.le_refl _) (fun _ _ _ h => h)
      have hB15 : Below r W1 w5 := Hbl.out.trans (Hb5.out.mono (by omega))
      have hD5 := om_kept Hrg.out.rn.owns (Hb5.out.block b (by omega))
      have hN5 : r + 1 ≤ w5.heap.size := by have := Hsz.out; have := Hb5.out.size; omega
      have hJ5 : J w5.heap.size [] w5 := HJ0.out w5 (Turn.of_below hB15 (fun k h => h.1))
      have hBm5 := (hB15.cell (p := ⟨Bm, 0, none⟩) Hside.out.2.2.1).trans hBm
      obtain ⟨pk, capk, hpk, hle5, hm5, hat5⟩ := hS5
      simp only [Value.slice.injEq] at hpk
      obtain ⟨rfl, _, rfl⟩ := hpk
      rw [hsl.symm]
      obtain ⟨N, hN⟩ : ∃ N, N = w5.heap.size := ⟨_, rfl⟩
      rw [← hN] at hJ5 hN5 hat5
      have hk63 : ks.length ≤ 9223372036854775807 := by unfold maxLen at hm5; omega
      have Hat5 := Lib.hid hat5; have HD5 := Lib.hid hD5; have HN5 := Lib.hid hN5; have HJ5 := Lib.hid hJ5; have HBm5 := Lib.hid hBm5; have HB15 := Lib.hid hB15; have HN := Lib.hid hN; have Hk63 := Lib.hid hk63; have Hblr := Lib.hid hblr
      clear hat5 hD5 hN5 hJ5 hBm5 hB15 hN hk63 hks hsl hle5 hm5 hrun hblr hBm hrun2
      go_loopw [22] (fun iv wk => ∃ (j : Nat) (Dj : DataW Value), j ≤ ks.length ∧ iv = .int .i64 (j : Int) ∧ J N ((ks.take j).map fun p => (p, g p)) wk ∧ wk.ownsMap Tryz.prog 62 R0 b n Dj ∧ (∀ p ∈ ks.drop j, Dj.atKey (klit p) (.held nilS) = .held (g p)) ∧ Turn (fun k => k < N ∧ k ≠ b ∧ ¬ E k ∧ k ≠ L) w5 wk) (fun iv _ => ks.length - (intOf iv).toNat)
      case atStart => exact ⟨0, D, Nat.zero_le _, rfl, HJ5.out, HD5.out, fun p hp => HP.out.at_ p ((Hkm.out p).1 (List.mem_of_mem_drop hp)).1, Turn.refl _ _⟩
      case round =>
        obtain ⟨j, Dj, hj, rfl, hJk, hDk, hatk, hTk⟩ := hrel
        have HJk := Lib.hid hJk; have HDk := Lib.hid hDk; have Hatk := Lib.hid hatk; have HTk := Lib.hid hTk
        clear hJk hDk hatk hTk
        by_cases hlt : j < ks.length
        · obtain ⟨p, hp⟩ : ∃ p, ks[j]? = some p := ⟨_, List.getElem?_eq_getElem hlt⟩
          have hpm : p ∈ ks := List.mem_of_getElem? hp
          have hpb : Bd p := ((Hkm.out p).1 hpm).1
          obtain ⟨b', off, vs, rfl, ⟨hS1, hS2⟩, hbw, hR, hc⟩ := Hat5.out j p hp
          have hR : vs = _ := hR
          subst hR
          have hkb : wr.heap[b']? = w5.heap[b']? := HTk.out.block b' ⟨hS2, by have := Hblr.out; omega, fun e => by have := Hside.out.2.2.2.2 _ e; omega, by have := Hside.out.2.2.2.1; omega⟩
          obtain ⟨⟨mm, ss, bb⟩, hq⟩ : ∃ q, q = p := ⟨_, rfl⟩
          have e0 : wr.cell? ⟨b', off + j * 3, none⟩ = some (.string ⟨mm.toArray⟩) := (World.cell?_of_block hkb).trans ((hc 0 _ rfl).trans (by rw [← hq]))
          have e1 : wr.cell? ⟨b', off + j * 3 + 1, none⟩ = some (.string ⟨ss.toArray⟩) := (World.cell?_of_block hkb).trans ((hc 1 _ rfl).trans (by rw [← hq]))
          have e2 : wr.cell? ⟨b', off + j * 3 + 2, none⟩ = some (.bool bb) := (World.cell?_of_block hkb).trans ((hc 2 _ rfl).trans (by rw [← hq]))
          have hBk : wr.cell? ⟨Bm, 0, none⟩ = some (.map (some b)) := (World.cell?_of_block (HTk.out.block Bm ⟨by have := Hside.out.2.2.1; have := HN5.out; omega, HBb.out, Hside.out.2.1.1, Hside.out.2.1.2⟩)).trans HBm5.out
          have hNk : N ≤ wr.heap.size := by have := HTk.out.size; have := HN.out; omega
          obtain ⟨W6, hW6⟩ : ∃ W, W = wr.alloc (.cells #[.string ⟨mm.toArray⟩, .string ⟨ss.toArray⟩, .bool bb] 62) := ⟨_, rfl⟩
          have hx := E3.new wr 62 (.string ⟨mm.toArray⟩) (.string ⟨ss.toArray⟩) (.bool bb)
          have hb6 := below_new wr (.cells #[.string ⟨mm.toArray⟩, .string ⟨ss.toArray⟩, .bool bb] 62)
          rw [← hW6] at hx hb6
          have hD6 := om_kept HDk.out (hb6.block b HDk.out.lt)
          have hlook := look_held hD6 hpb (Hatk.out p (by rw [List.drop_eq_getElem_cons hlt]; have := (List.getElem?_eq_some_iff.1 hp).2; rw [this]; simp))
          obtain ⟨W7, hdel, hD7, hT7⟩ := hD6.drop pl_keyed Tryz.underlying60 (klit_key p hpb) 0
          have hg7 := hT7.grown
          have hxl : wr.heap.size < W6.heap.size := hx.lt
          have hxb : wr.heap.size ≠ b := by have := HDk.out.lt; omega
          have hx7 : ∀ i, W7.cell? ⟨wr.heap.size, i, none⟩ = W6.cell? ⟨wr.heap.size, i, none⟩ := fun i => grown_cell hg7 hxl (by simp; omega) i
          have f0 := (hx7 0).trans hx.c0; have f1 := (hx7 1).trans hx.c1; have f2 := (hx7 2).trans hx.c2
          have c0 := hx.c0; have c1 := hx.c1; have c2 := hx.c2
          have hBm6 := (hb6.cell (p := ⟨Bm, 0, none⟩) (show Bm < wr.heap.size by have := Hside.out.2.2.1; have := HN5.out; omega)).trans hBk
          have hT67 : Turn (fun k => k < wr.heap.size ∧ k ≠ b) wr W7 := (Turn.of_below hb6 (fun k h => h.1)).trans (Turn.of_grown hg7 (fun k h => ⟨by have := hb6.size; omega, by simp; exact h.2⟩))
          have hJ7 := HJ1.out N _ wr W7 HJk.out hT67
          have hpre : (ks.take j).map (fun p => (p, g p)) ++ [(p, g p)] <+: ks.map (fun p => (p, g p)) := by
            have : (ks.take j).map (fun p => (p, g p)) ++ [(p, g p)] = (ks.take (j + 1)).map (fun p => (p, g p)) := by rw [List.take_add_one, hp]; simp
            rw [this]
            exact (List.take_prefix _ _).map _
          have hyield := HY.out N _ (p, g p) W7 hJ7 hpre
          have hpv : plV p = .agg #[.string ⟨mm.toArray⟩, .string ⟨ss.toArray⟩, .bool bb] := by rw [← hq]; rfl
          unfold encY at hyield
          simp only [hpv] at hyield
          rw [hpv] at hlook hdel
          have hlt' : (j : Int) < (ks.length : Int) := by omega
          obtain ⟨j1, hj1⟩ : ∃ j1, j1 = j + 1 := ⟨_, rfl⟩
          have hwk : IntKind.i64.wrap ((j : Int) + 1) = (j1 : Int) := by rw [IntWalk.i64_in _ (by have := Hk63.out; omega)]; omega
          have HD7 := Lib.hid hD7; have HT67 := Lib.hid hT67; have Hy := Lib.hid hyield; have Hj1 := Lib.hid hj1; have Hlt := Lib.hid hlt; have Hp := Lib.hid hp; have Hpb := Lib.hid hpb; have HNk := Lib.hid hNk; have HW6 := Lib.hid hW6
          clear hD7 hT67 hyield hj1 hlt hp hpb hNk hj hpm hS1 hS2 hbw hc hkb hq hx hb6 hD6 hT7 hg7 hxl hxb hx7 hJ7 hpre hpv hBk
          go_upto_region 9 with fail
          rw [← HW6.out]
          clear hW6
          go_upto_region 11 with fail
          refine (wpIn_wide (n := m + 1)).1 ?_
          obtain ⟨fn, tmps, assign, body, hy, hR⟩ := Hy.out
          gi_wp2
          refine hR.mono ?_
          rintro e W8 ⟨rfl, hJ8, hT8⟩
          clear hy hR
          have HJ8 := Lib.hid hJ8; have HT8 := Lib.hid hT8
          clear hJ8 hT8
          gi_wp2
          go_wp2_with fail
          go_roundw
          case rel =>
            have hnd := Ix.Up.nodup Ix.ordP Hks.out
            have hdr : ks.drop j = p :: ks.drop j1 := by
              rw [Hj1.out, List.drop_eq_getElem_cons Hlt.out, (List.getElem?_eq_some_iff.1 Hp.out).2]
            have htk : (ks.take j1).map (fun p => (p, g p)) = (ks.take j).map (fun p => (p, g p)) ++ [(p, g p)] := by rw [Hj1.out, List.take_add_one, Hp.out]; simp
            have hbN : b < N := by have := Hblr.out; have := HN5.out; omega
            refine ⟨j1, Dj.del (klit p), by have := Hlt.out; have := Hj1.out; omega, rfl, by rw [htk]; exact HJ8.out, om_kept HD7.out (HT8.out.block b ⟨hbN, Hside.out.1.1, Hside.out.1.2⟩), fun q hq => ?_, ?_⟩
            · have hnd2 : (ks.drop j).Nodup := hnd.sublist (List.drop_sublist _ _)
              rw [hdr, List.nodup_cons] at hnd2
              have hqb : Bd q := ((Hkm.out q).1 (List.mem_of_mem_drop hq)).1
              have hne : q ≠ p := fun e => hnd2.1 (e ▸ hq)
              rw [Maps.atKey_del_other (fun h => hne (klit_inj hqb Hpb.out h))]
              exact Hatk.out q (by rw [hdr]; exact List.mem_cons_of_mem _ hq)
            · have h1 : Turn (fun k => k < N ∧ k ≠ b ∧ ¬ E k ∧ k ≠ L) wr W7 := HT67.out.mono (fun k h => ⟨Nat.lt_of_lt_of_le h.1 HNk.out, h.2.1⟩)
              have h2 : Turn (fun k => k < N ∧ k ≠ b ∧ ¬ E k ∧ k ≠ L) W7 W8 := HT8.out.mono (fun k h => ⟨h.1, h.2.2.1, h.2.2.2⟩)
              exact (HTk.out.trans h1).trans h2
          case measure => have := Hlt.out; have := Hj1.out; simp [intOf]; omega
        · have hlt' : ¬ (j : Int) < (ks.length : Int) := by omega
          have htk : ks.take j = ks := List.take_of_length_le (by omega)
          have Htk := Lib.hid htk
          clear htk hlt hj
          go_wp2_with fail
          refine bodyPost_end (results_none rfl _ _ _) rfl ?_
          exact ⟨⟨_, rfl⟩, N, by have := HJk.out; rwa [Htk.out] at this⟩
    · have Hrg' := Lib.hid hrg'; have Hlt := Lib.hid hlt; have Hgr := Lib.hid hgr; have Hsz3 := Lib.hid hsz3
      clear hrg' hlt hgr hsz3
      obtain ⟨⟨mm, ss, bb⟩, hq⟩ : ∃ q, q = p.1 := ⟨_, rfl⟩
      rw [← hq] at hrun hen
      have Hq := Lib.hid hq; clear hq
      have hpv : plV (mm, ss, bb) = .agg #[.string ⟨mm.toArray⟩, .string ⟨ss.toArray⟩, .bool bb] := rfl
      rw [hpv] at hrun hen
      clear hpv
      have hmono : seen.length ≤ n := by have := Hrg.out.ln; omega
      have hblr : b < r := by have := HD.out.lt; omega
      obtain ⟨W4, hW4⟩ : ∃ W, W = w3.alloc (.cells #[.string ⟨mm.toArray⟩, .string ⟨ss.toArray⟩, .bool bb] 62) := ⟨_, rfl⟩
      have hx := E3.new w3 62 (.string ⟨mm.toArray⟩) (.string ⟨ss.toArray⟩) (.bool bb)
      have hb34 := below_new w3 (.cells #[.string ⟨mm.toArray⟩, .string ⟨ss.toArray⟩, .bool bb] 62)
      rw [← hW4] at hx hb34
      have c0 := hx.c0; have c1 := hx.c1; have c2 := hx.c2
      have hown3 : w3.ownsRow (r + 1) 62 3 u3 seen.length fl := World.ownsRow.kept Hown.out Hgr.out (by
        cases hv : u3.ownBlock with
        | none => exact .inl rfl
        | some k =>
          right
          intro e
          have := (World.ownsRow.lt Hown.out k hv).1
          simp only [Option.some.injEq] at e
          omega)
      have hown4 := own_below hown3 hb34
      have hsz4 : r + 1 ≤ W4.heap.size := by have := hb34.size; have := Hsz3.out; have := Hsz.out; omega
      have hrg4 := Hrg'.out.below hb34
      have hbl3 : Below r W1 w3 := Hbl.out.grown Hgr.out (by have := Hsz.out; omega) (fun k e => by simp only [Option.some.injEq] at e; omega)
      have hbl4 := hbl3.trans (hb34.mono (by have := Hsz3.out; have := Hsz.out; omega))
      have Hown4 := Lib.hid hown4; have Hsz4 := Lib.hid hsz4; have Hrg4 := Lib.hid hrg4; have Hbl4 := Lib.hid hbl4; have Hblr := Lib.hid hblr
      have Hnm := Lib.hid (show seen.length + 1 ≤ maxLen by have := Hn.out; unfold maxLen; omega)
      have Hn47 := Lib.hid (show (seen.length + 1) * 40 ≤ 140737488355328 by have := Hn.out; omega)
      clear hx hb34 hown3 hown4 hsz4 hrg4 hbl3 hbl4 hmono hblr
      go_upto_region 4 with fail
      rw [← hW4]
      clear hW4
      go_wp2_with (at_builtin; go_loud (refine wpList_append1 rfl (.tmp 14) (.tmp 16) 91 rfl (r + 1) 62 i0 (.agg #[.string ⟨#[]⟩, .string ⟨#[]⟩, .bool false]) 3 40 Tryz.underlying91 Hi.out Hz0.out Hz1.out Hz2.out rfl (by decide) _ _ _ Hown4.out rfl [.string ⟨mm.toArray⟩, .string ⟨ss.toArray⟩, .bool bb] rfl (by simp) rfl (by simp [Value.oneCell']) Hnm.out Hn47.out Hsz4.out ?_); intro v2 w6 own2 g2 at2; obtain ⟨p2, cap2, hv2, _⟩ := own2.form (Nat.succ_pos _); subst hv2)
      have hu : ∀ k, u3.ownBlock = some k → r + 1 ≤ k := fun k e => (World.ownsRow.lt Hown4.out k e).1
      have hrg6 := Hrg4.out.kept g2 (fun e => by have := hu b e.symm; have := Hblr.out; omega) (fun e => by have := hu r e.symm; omega)
      have hbl6 : Below r W1 w6 := Hbl4.out.grown g2 (by have := Hsz4.out; omega) (fun k e => by have := hu k e; omega)
      go_roundw
      case rel => exact ⟨seen ++ [p], left', cnt', _, by rw [List.length_append]; exact own2, by rw [List.map_append]; exact RepRow.snoc (R := RPl) (vs := [.string ⟨mm.toArray⟩, .string ⟨ss.toArray⟩, .bool bb]) (by show RPl p.1 _; rw [← Hq.out]; rfl) Hrep.out, hrg6, hbl6, by have := Hsz4.out; have := g2.size; omega⟩
      case measure => rw [hrg6.rn.left_eq, Hle.out]; exact Hlt.out
end Go.Proofs.YthoblbdkmlggbaaGreatDoor
