/- A map from places to rows of numbers, of the call's own. -/
import Derived.Test.YthoblbdkmlggbaaGreatDoorIxS
import Derived.Maps.OwnSet
import Derived.Maps.OwnOps
import Derived.Maps.Range
import Derived.WideKeyEntry
import Derived.DeepKeys4
set_option linter.unusedSimpArgs false
set_option linter.unusedVariables false
namespace Go.Proofs.YthoblbdkmlggbaaGreatDoor
open Go.RowKit
open Go.Maps (Keyed)
open Go.MapKept Go.WideElems Go.WideMaps
theorem pl_laid : laidOutB Tryz.prog = true := by kernel_rfl
theorem pl_row : (62 : TypeId) < Tryz.prog.types.size := of_decide_eq_true (by kernel_rfl)
theorem pl_kta : Tryz.prog.keyTypeAt 2 62 = true := by kernel_rfl
theorem pl_law : KeyLaw Tryz.prog 62 := deep_law_laid pl_laid (m := 2) (by omega) pl_row pl_kta (by rw [Tryz.underlying62])
theorem pl_keyed : Keyed Tryz.prog 62 := Keyed.of_law pl_law
def Bd (p : Ix.Pl) : Prop := p.1.length ≤ maxLen ∧ p.2.1.length ≤ maxLen
theorem pl_kt : Tryz.prog.keyType 62 = true := by kernel_rfl
theorem pl_cells : Tryz.prog.cellsOf 62 = 3 := by kernel_rfl
theorem pl_key (p : Ix.Pl) (h : Bd p) : ∃ kl, keyOf Tryz.prog 62 (plV p) = some kl := by
  obtain ⟨m, s, b⟩ := p
  obtain ⟨h1, h2⟩ := h
  simp only at h1 h2
  have hf : (plV (m, s, b)).formed Tryz.prog 62 = true := by simp [plV, Value.formed, Tryz.underlying62, pl_cells]
  have hr : (62 : Nat) < Tryz.prog.types.size := pl_row
  obtain ⟨d, hd⟩ : ∃ d, Tryz.prog.types.size + 1 = d + 1 + 1 := ⟨Tryz.prog.types.size - 1, by omega⟩
  have c1 : Tryz.prog.cellsOf 9 = 1 := by kernel_rfl
  have c2 : Tryz.prog.cellsOf 4 = 1 := by kernel_rfl
  have ks : ∀ l : List UInt8, l.length ≤ maxLen → Tryz.prog.keyLits (d + 1) 9 [.string ⟨l.toArray⟩] = some [.string l] := by
    intro l hl
    unfold Program.keyLits
    rw [Tryz.underlying9]
    simp only [size_mk, hl, if_true]
  have kb : Tryz.prog.keyLits (d + 1) 4 [.bool b] = some [.bool b] := by
    unfold Program.keyLits
    rw [Tryz.underlying4]
  have km : Tryz.prog.keyLits (d + 1 + 1) 62 [.string ⟨m.toArray⟩, .string ⟨s.toArray⟩, .bool b] = some [.string m, .string s, .bool b] := by
    unfold Program.keyLits
    rw [Tryz.underlying62]
    simp [pl_cells, c1, c2, ks m h1, ks s h2, kb]
  unfold keyOf
  rw [Tryz.underlying62]
  simp only [pl_kt, hf, Bool.and_self, if_true, hd]
  have he : (plV (m, s, b)).cells.toList = [.string ⟨m.toArray⟩, .string ⟨s.toArray⟩, .bool b] := rfl
  rw [he, km]
  exact ⟨_, rfl⟩
/-! ### the map -/
open Classical in
noncomputable def klit (p : Ix.Pl) : Lit := if h : Bd p then Classical.choose (pl_key p h) else .nil
theorem klit_key (p : Ix.Pl) (h : Bd p) : keyOf Tryz.prog 62 (plV p) = some (klit p) := by
  unfold klit
  rw [dif_pos h]
  exact Classical.choose_spec (pl_key p h)
theorem plV_inj {p q : Ix.Pl} (h : plV p = plV q) : p = q := by
  obtain ⟨m, s, b⟩ := p
  obtain ⟨m', s', b'⟩ := q
  unfold plV at h
  simp only [Value.agg.injEq] at h
  have h := congrArg Array.toList h
  simp only [List.cons.injEq, Value.string.injEq, Value.bool.injEq, and_true] at h
  obtain ⟨h1, h2, h3⟩ := h
  have e1 := congrArg (fun s : ByteArray => s.data.toList) h1
  have e2 := congrArg (fun s : ByteArray => s.data.toList) h2
  simp at e1 e2
  rw [e1, e2, h3]
theorem klit_inj {p q : Ix.Pl} (hp : Bd p) (hq : Bd q) (h : klit p = klit q) : p = q :=
  plV_inj (pl_keyed.inj (a := plV p) (b := plV q) (l := klit q) (h ▸ klit_key p hp) (klit_key q hq))
theorem klit_lit {p : Ix.Pl} (hp : Bd p) : WideAt.IsKeyLit (klit p) := by
  have h := klit_key p hp
  generalize klit p = l at h ⊢
  exact pl_keyed.key h
/-- an element of the map reads as itself -/
def R0 (v : Value) : Option (DataW Value × List MemPlace) := some (.held v, [])
def nilS : Value := .slice none 0 0
/-- each place's value owns its numbers -/
structure PRow (w : World) (base n : Nat) (D : DataW Value) (g : Ix.Pl → Value) (f : Ix.Pl → List Int) (nb : Option Nat) : Prop where
  at_ : ∀ p, Bd p → D.atKey (klit p) (.held nilS) = .held (g p)
  own : ∀ p, Bd p → OwnInts base w (g p) (f p)
  apart : ∀ p q, Bd p → Bd q → p ≠ q → (g p).ownBlock = none ∨ (g p).ownBlock ≠ (g q).ownBlock
  has1 : ∀ kl, Maps.has D kl = true → ∃ p, Bd p ∧ kl = klit p ∧ f p ≠ []
  has2 : ∀ p, Bd p → f p ≠ [] → Maps.has D (klit p) = true
  len : ∀ p, Bd p → (f p).length ≤ n
  shun : ∀ p, Bd p → (g p).ownBlock = none ∨ (g p).ownBlock ≠ nb
/-- block b is a map from places to rows of numbers -/
def PMap (w : World) (b base n : Nat) (f : Ix.Pl → List Int) (nb : Option Nat) : Prop :=
  ∃ (D : DataW Value) (g : Ix.Pl → Value), w.ownsMap Tryz.prog 62 R0 b n D ∧ PRow w base n D g f nb ∧ b < base ∧ base ≤ w.heap.size
theorem ownInts_nil (B : Nat) (w : World) : OwnInts B w nilS [] := ⟨rfl, .inl ⟨rfl, rfl⟩⟩
theorem ownInts_kept {B : Nat} {w w' : World} {v : Value} {zs : List Int} {row : Option Nat} (h : OwnInts B w v zs) (hg : w.grownBy w' row) (hne : v.ownBlock = none ∨ v.ownBlock ≠ row) : OwnInts B w' v zs := World.ownsRow.kept h hg hne
theorem PMap.made (w : World) (nb : Option Nat) : PMap (w.alloc (.map #[] 0)) w.heap.size (w.heap.size + 1) 0 (fun _ => []) nb :=
  ⟨.map [], fun _ => nilS, World.ownsMap_made w _ _ _, ⟨fun _ _ => rfl, fun _ _ => ownInts_nil _ _, fun _ _ _ _ _ => .inl rfl, fun kl h => by simp [Maps.has] at h, fun _ _ h => absurd rfl h, fun _ _ => Nat.le_refl _, fun _ _ => .inl rfl⟩, Nat.lt_succ_self _, by simp⟩
section
variable {w w' : World} {b base n : Nat} {f : Ix.Pl → List Int} {nb : Option Nat}
theorem PMap.lt (h : PMap w b base n f nb) : b < w.heap.size := let ⟨_, _, h, _⟩ := h; h.lt
/-- something else is written -/
theorem PMap.kept (h : PMap w b base n f nb) (hg : w.grownBy w' nb) (hb : some b ≠ nb) : PMap w' b base n f nb := by
  obtain ⟨D, g, h1, h2, h3, h4⟩ := h
  exact ⟨D, g, h1.kept hg hb, ⟨h2.at_, fun p hp => ownInts_kept (h2.own p hp) hg (h2.shun p hp), h2.apart, h2.has1, h2.has2, h2.len, h2.shun⟩, h3, Nat.le_trans h4 hg.size⟩
theorem PMap.below (h : PMap w b base n f nb) (hb : Below w.heap.size w w') : PMap w' b base n f nb := by
  obtain ⟨D, g, h1, h2, h3, h4⟩ := h
  have hg : w.grownBy w' none := grown_of_below hb none
  exact ⟨D, g, h1.kept hg (by simp), ⟨h2.at_, fun p hp => own_below (h2.own p hp) hb, h2.apart, h2.has1, h2.has2, h2.len, h2.shun⟩, h3, Nat.le_trans h4 hb.size⟩
/-- a block that holds no numbers is written -/
theorem PMap.keptT {row : Option Nat} (h : PMap w b base n f nb) (hg : w.grownBy w' row) (hr : ∀ k, row = some k → k ≠ b ∧ ∀ cs fr, w.heap[k]? ≠ some (.cells cs 3 fr)) : PMap w' b base n f nb := by
  obtain ⟨D, g, h1, h2, h3, h4⟩ := h
  have off : ∀ p, Bd p → (g p).ownBlock = none ∨ (g p).ownBlock ≠ row := by
    intro p hp
    rcases (h2.own p hp).2 with ⟨hv, _⟩ | ⟨gg, cap, cur, hv, _, hgg, _⟩
    · left; rw [hv]; rfl
    · right
      intro e
      rw [hv] at e
      exact (hr gg (by rw [← e]; rfl)).2 _ _ hgg
  exact ⟨D, g, h1.kept hg (fun e => (hr b e.symm).1 rfl), ⟨h2.at_, fun p hp => ownInts_kept (h2.own p hp) hg (off p hp), h2.apart, h2.has1, h2.has2, h2.len, h2.shun⟩, h3, Nat.le_trans h4 hg.size⟩
/-- another block is shunned: one that has just been laid -/
theorem PMap.reno (h : PMap w b base n f nb) (nb' : Option Nat) (hn : nb' = nb ∨ ∀ k, nb' = some k → w.heap.size ≤ k) : PMap w b base n f nb' := by
  obtain ⟨D, g, h1, h2, h3, h4⟩ := h
  refine ⟨D, g, h1, ⟨h2.at_, h2.own, h2.apart, h2.has1, h2.has2, h2.len, fun p hp => ?_⟩, h3, h4⟩
  rcases hn with rfl | hn
  · exact h2.shun p hp
  · cases hb : (g p).ownBlock with
    | none => exact .inl rfl
    | some k =>
      right
      intro e
      have := (World.ownsRow.lt (h2.own p hp) k hb).2
      have := hn k e.symm
      omega
theorem PMap.mono (h : PMap w b base n f nb) {m : Nat} (hm : n ≤ m) : PMap w b base m f nb := by
  obtain ⟨D, g, h1, h2, h3, h4⟩ := h
  exact ⟨D, g, h1.mono hm, ⟨h2.at_, h2.own, h2.apart, h2.has1, h2.has2, fun p hp => Nat.le_trans (h2.len p hp) hm, h2.shun⟩, h3, h4⟩
/-- 'all[p] = append(all[p], x)', where x lies in a block of its own -/
theorem pm_append (h : PMap w b base n f nb) (p : Ix.Pl) (hp : Bd p) (x : Int) (gx : Nat) (hx : w.cell? ⟨gx, 0, none⟩ = some (.int .i64 x)) (hxb : gx ≠ b) (hxl : gx < w.heap.size) (hn : n ≤ 1000000) (hnb : ∀ k, nb = some k → k < w.heap.size) :
    ∃ (v0 : Value) (st : Nat) (Wa : World) (v' : Value) (Wb Wc : World), (Instr.mapEntry 60 (.map (some b)) (plV p)).run Tryz.prog w = .ok (.tuple #[v0, .int .i64 (st : Int)]) Wa ∧
      (Builtin.append_ #[22, 22] 22 #[v0, .slice (some ⟨gx, 0, none⟩) 1 1]).run Tryz.prog Wa = .ok v' Wb ∧
      (Instr.entryStore 60 (.map (some b)) (.int .i64 (st : Int)) v').run Tryz.prog Wb = .ok () Wc ∧
      PMap Wc b base (n + 1) (fun q => if q = p then f q ++ [x] else f q) nb ∧ (∀ B, B ≤ b → Below B w Wc) ∧ ∀ k, k < w.heap.size → k ≠ b → (∀ cs fr, w.heap[k]? ≠ some (.cells cs 3 fr)) → Wc.heap[k]? = w.heap[k]? := by
  obtain ⟨D, g, hD, hP, hbb, hbs⟩ := h
  obtain ⟨es, clock, hblk, F, hs, hDe⟩ := id hD
  obtain ⟨v0, st, es1, clock1, hrun1, hv0, hback⟩ := entry_then_store pl_law Tryz.underlying60 (z := nilS) (fun u => by kernel_rfl) hblk F (klit_key p hp)
  -- what the entry holds
  have hlook : v0 = g p := by
    obtain ⟨v, ps, hl1, hl2⟩ := hD.lookup pl_keyed Tryz.underlying60 (z := nilS) (by kernel_rfl) (zd := .held nilS) (zp := []) rfl (klit_key p hp)
    have hat := hP.at_ p hp
    rw [hat] at hl2
    unfold R0 at hl2
    simp only [Option.some.injEq, Prod.mk.injEq, DataW.held.injEq] at hl2
    rw [← hl2.1]
    rcases Maps.fit_look false pl_keyed Tryz.underlying60 (z := nilS) (by kernel_rfl) hblk F (klit_key p hp) with ⟨hr, hno, _⟩ | ⟨e0, y, he0, hk0, hr, _⟩
    · have e1 : nilS = v := by simpa using (Result.ok.inj (hr.symm.trans hl1)).1
      rcases hv0 with ⟨e, he, hk, hv⟩ | ⟨_, hv⟩
      · exact absurd hk (hno e he)
      · rw [hv, e1]
    · have e1 : e0.val = v := by simpa using (Result.ok.inj (hr.symm.trans hl1)).1
      rcases hv0 with ⟨e, he, hk, hv⟩ | ⟨hno, hv⟩
      · have hst := (stamped_iff es clock).1 F.stamped
        have : e = e0 := entry_eq_of_key hst.2.2 he he0 (hk.trans hk0.symm)
        rw [hv, ← e1, this]
      · exact absurd hk0 (hno e0 he0)
  clear hv0
  subst hlook
  obtain ⟨Wa, hWa⟩ : ∃ W, W = Go.ChangeMaps.setBlock w b (.map es1 clock1) := ⟨_, rfl⟩
  rw [← hWa] at hrun1
  have hga : w.grownBy Wa (some b) := by
    rw [hWa]
    exact ⟨rfl, rfl, rfl, by simp [Go.ChangeMaps.setBlock], fun i _ hi => Go.ChangeMaps.heap_setBlock_other hblk _ (fun e => hi (by rw [e]))⟩
  have hza : Wa.heap.size = w.heap.size := by rw [hWa]; simp [Go.ChangeMaps.setBlock]
  have hba : Wa.heap[b]? = some (.map es1 clock1) := by rw [hWa]; exact Go.ChangeMaps.heap_setBlock_same hblk _
  have offb : ∀ (v : Value) (W : World) (zs : List Int), OwnInts base W v zs → v.ownBlock = none ∨ v.ownBlock ≠ some b := by
    intro v W zs ho
    cases hv : v.ownBlock with
    | none => exact .inl rfl
    | some k =>
      right
      intro e
      have := (World.ownsRow.lt ho k hv).1
      simp only [Option.some.injEq] at e
      omega
  have howna : ∀ q, Bd q → OwnInts base Wa (g q) (f q) := fun q hq => ownInts_kept (hP.own q hq) hga (offb _ _ _ (hP.own q hq))
  have hxa : Wa.cell? ⟨gx, 0, none⟩ = some (.int .i64 x) := by
    rw [← hx]
    exact World.cell?_of_block (hga.block gx hxl (by simp; exact hxb))
  obtain ⟨i, hi, hz, hsz, hby⟩ := info_parts int_info
  obtain ⟨v', Wb, hrun2, hown2, hgb, _, hloc⟩ := run_append_own_at (P := Tryz.prog) Wa base 22 22 3 i (.int .i64 0) 1 8 Tryz.underlying22 hi hz hsz hby rfl (by decide) (g p) (f p).length ((f p).map (Value.int .i64)) (howna p hp) ⟨gx, 0, none⟩ 1 1 [.int .i64 x] rfl (fun j u hj => by
    match j, hj with
    | 0, hj =>
      simp only [List.getElem?_cons_zero, Option.some.injEq] at hj
      subst hj
      rw [Addr.add_lit]
      exact hxa) (by simp [Value.oneCell']) (by have := hP.len p hp; unfold maxLen; omega) (by have := hP.len p hp; omega) (by omega)
  have hown2' : OwnInts base Wb v' (f p ++ [x]) := by
    unfold OwnInts
    simpa using hown2
  have hbb2 : Wb.heap[b]? = some (.map es1 clock1) := by
    rw [hgb.block b (by rw [hza]; exact hD.lt) (fun e => by rcases offb _ _ _ (howna p hp) with h | h; rw [h] at e; cases e; exact h e.symm)]
    exact hba
  obtain ⟨es', clock', hrun3, hupd⟩ := hback Wb v' hbb2
  obtain ⟨Wc, hWc⟩ : ∃ W, W = Go.ChangeMaps.setBlock Wb b (.map es' clock') := ⟨_, rfl⟩
  rw [← hWc] at hrun3
  obtain ⟨W2, hu1, hu2, hu3⟩ := hD.update pl_keyed Tryz.underlying60 (by unfold maxLen; omega) (klit_key p hp) (val := v') (d := .held v') (ps := []) rfl
  have hW2 : Go.ChangeMaps.setBlock w b (.map es' clock') = W2 := (Result.ok.inj (hupd.symm.trans hu1)).2
  have hDc : Wc.ownsMap Tryz.prog 62 R0 b (n + 1) (D.put (klit p) (.held v')) := by
    rw [← hW2] at hu2
    obtain ⟨es2, clock2, hb2, F2, hs2, hD2⟩ := hu2
    rw [Go.ChangeMaps.heap_setBlock_same hblk] at hb2
    refine ⟨es2, clock2, ?_, F2, hs2, hD2⟩
    rw [hWc, Go.ChangeMaps.heap_setBlock_same hbb2]
    exact hb2
  have hgc : Wb.grownBy Wc (some b) := by
    rw [hWc]
    exact ⟨rfl, rfl, rfl, by simp [Go.ChangeMaps.setBlock], fun i _ hi => Go.ChangeMaps.heap_setBlock_other hbb2 _ (fun e => hi (by rw [e]))⟩
  refine ⟨g p, st, Wa, v', Wb, Wc, hrun1, hrun2, hrun3, ⟨_, fun q => if q = p then v' else g q, hDc, ⟨fun q hq => ?_, fun q hq => ?_, fun q r hq hr hne => ?_, fun kl hkl => ?_, fun q hq hne => ?_, fun q hq => ?_, fun q hq => ?_⟩, hbb, ?_⟩, fun B hB => ?_, fun k hk hkb hkc => ?_⟩
  · by_cases e : q = p
    · subst e; rw [if_pos rfl]; exact Maps.atKey_put_same hD.isMap (klit_lit hq) _ _
    · rw [if_neg e, Maps.atKey_put_other (fun h => e (klit_inj hq hp h))]; exact hP.at_ q hq
  · by_cases e : q = p
    · subst e; simp only [if_true]; exact ownInts_kept hown2' hgc (offb _ _ _ hown2')
    · simp only [if_neg e]
      have h1 : OwnInts base Wb (g q) (f q) := ownInts_kept (howna q hq) hgb (hP.apart q p hq hp e)
      exact ownInts_kept h1 hgc (offb _ _ _ h1)
  · have fresh : ∀ s, Bd s → (g s).ownBlock ≠ some Wa.heap.size := fun s hs e => by
      have := (World.ownsRow.lt (howna s hs) _ e).2
      omega
    by_cases e1 : q = p
    · subst e1
      have e2 : ¬ r = q := fun h => hne h.symm
      simp only [if_true, if_neg e2]
      rcases hloc with h | h
      · rw [h]; exact hP.apart q r hq hr hne
      · right; rw [h]; exact fun e => fresh r hr e.symm
    · by_cases e2 : r = p
      · subst e2
        simp only [if_true, if_neg e1]
        rcases hloc with h | h
        · rw [h]; exact hP.apart q r hq hr hne
        · right; rw [h]; exact fresh q hq
      · simp only [if_neg e1, if_neg e2]; exact hP.apart q r hq hr hne
  · by_cases e : kl = klit p
    · exact ⟨p, hp, e, by rw [if_pos rfl]; simp⟩
    · rw [Maps.has_put_other e] at hkl
      obtain ⟨q, hq, h1, h2⟩ := hP.has1 kl hkl
      have : q ≠ p := fun h => e (by rw [h1, h])
      exact ⟨q, hq, h1, by rw [if_neg this]; exact h2⟩
  · by_cases e : q = p
    · subst e; exact Maps.has_put_same hD.isMap (klit_lit hq) _
    · rw [if_neg e] at hne
      rw [Maps.has_put_other (fun h => e (klit_inj hq hp h))]
      exact hP.has2 q hq hne
  · by_cases e : q = p
    · subst e; rw [if_pos rfl, List.length_append]; have := hP.len q hq; simp; omega
    · rw [if_neg e]; exact Nat.le_succ_of_le (hP.len q hq)
  · by_cases e : q = p
    · subst e
      simp only [if_true]
      rcases hloc with h | h
      · rw [h]; exact hP.shun q hq
      · right; rw [h]; intro e
        have := hnb _ e.symm
        omega
    · simp only [if_neg e]; exact hP.shun q hq
  · have := hgb.size; have := hgc.size; omega
  · have h1 : Below B w Wa := (Below.refl B w).grown hga (by have := hD.lt; omega) (fun k e => by simp only [Option.some.injEq] at e; omega)
    have h2 : Below B w Wb := h1.grown hgb (by have := hD.lt; omega) (fun k e => by have := (World.ownsRow.lt (howna p hp) k e).1; omega)
    exact h2.grown hgc (by have := hD.lt; have := hgb.size; omega) (fun k e => by simp only [Option.some.injEq] at e; omega)
  · rw [hgc.block k (by have := hgb.size; omega) (by simp; exact hkb)]
    rw [hgb.block k (by omega) (fun e => by
      rcases (hP.own p hp).2 with ⟨hv, _⟩ | ⟨gg, cap, cur, hv, _, hgg, _⟩
      · rw [hv] at e; cases e
      · rw [hv] at e
        simp only [Value.ownBlock, Option.some.injEq] at e
        subst e
        exact hkc _ _ hgg)]
    exact hga.block k hk (by simp; exact hkb)
end
end Go.Proofs.YthoblbdkmlggbaaGreatDoor
