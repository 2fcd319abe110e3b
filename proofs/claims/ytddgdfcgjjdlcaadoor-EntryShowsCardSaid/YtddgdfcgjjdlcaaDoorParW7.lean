/- The walks of package entry's reader: a note more. -/
import Derived.Test.YtddgdfcgjjdlcaaDoorRdr
namespace Go.Proofs.YtddgdfcgjjdlcaaDoor
open Go.RowKit

theorem note_info : (Tryd.prog.info? 58).map (fun i => (i.zero, i.size, i.bytes)) = some (some (.agg #[.int .i64 0, .string ⟨#[]⟩]), 2, 24) := by kernel_rfl
theorem info_parts {P : Program} {e : TypeId} {z : Value} {n b : Nat} (h : (P.info? e).map (fun i => (i.zero, i.size, i.bytes)) = some (some z, n, b)) : ∃ i, P.info? e = some i ∧ i.zero = some z ∧ i.size = n ∧ i.bytes = b := by
  cases hi : P.info? e with
  | none => rw [hi] at h; cases h
  | some i => rw [hi] at h; injection h with h; injection h with h1 h2; injection h2 with h2 h3; exact ⟨i, rfl, h1, h2, h3⟩

theorem grown_cell {w w' : World} {row : Option Nat} {r : Nat} (hg : w.grownBy w' row) (hr : r < w.heap.size) (hne : row ≠ some r) (i : Nat) : w'.cell? ⟨r, i, none⟩ = w.cell? ⟨r, i, none⟩ :=
  World.cell?_of_block (hg.block r hr (fun e => hne e.symm))
theorem grown_frozen {w w' : World} {row : Option Nat} {r : Nat} (hg : w.grownBy w' row) (hr : r < w.heap.size) (hne : row ≠ some r) (i : Nat) : w'.frozen? ⟨r, i, none⟩ = w.frozen? ⟨r, i, none⟩ :=
  World.frozen?_of_block (hg.block r hr (fun e => hne e.symm))

theorem grown_set (w : World) (r i : Nat) (v : Value) : w.grownBy (w.setCell ⟨r, i, none⟩ v) (some r) :=
  ⟨rfl, rfl, rfl, by simp [World.setCell], fun k _ hk => Below.heap_setCell _ _ _ _ (fun e => hk (by rw [e]))⟩
theorem Rdr.noted {s : List UInt8} {r m b : Nat} {w w2 : World} {σ : Ent.RS} {v v2 : Value} {e : Int} {x : List UInt8} (h : Rdr s r m (b + 1) w σ v) (hne : v.ownBlock ≠ some r) (hnm : v.ownBlock ≠ some m) (hg : w.grownBy w2 v.ownBlock)
    {fl : List Value} (hrep : RepRow RNote σ.notes fl) (hown : w2.ownsRow (r + 1) 58 2 v2 (σ.notes.length + 1) (fl ++ [.int .i64 e, .string ⟨x.toArray⟩])) :
    Rdr s r m b (w2.setCell ⟨r, 4, none⟩ v2) (σ.note e x) v2 := by
  have hlt := h.at'.lt
  have hc := fun i => grown_cell hg hlt hne i
  have hf := fun i => grown_frozen hg hlt hne i
  have hs : ∀ i, i ≠ 4 → (w2.setCell ⟨r, 4, none⟩ v2).cell? ⟨r, i, none⟩ = w.cell? ⟨r, i, none⟩ := fun i hi => (World.cell?_setCell_other _ _ _ _ (fun e => hi (by cases e; rfl))).trans (hc i)
  have hz : ∀ i, (w2.setCell ⟨r, 4, none⟩ v2).frozen? ⟨r, i, none⟩ = w.frozen? ⟨r, i, none⟩ := fun i => (by simp : _ = w2.frozen? ⟨r, i, none⟩).trans (hf i)
  obtain ⟨n, h1, h2⟩ := h.names
  obtain ⟨k, h3, h4, h5⟩ := h.at'.place
  refine ⟨⟨(hs 0 (by decide)).trans h.at'.text, ⟨k, h3, h4, (hs 1 (by decide)).trans h5⟩, (hz 1).trans h.at'.free, by simpa using Nat.lt_of_lt_of_le hlt hg.size⟩, (hs 2 (by decide)).trans h.kind, (hz 2).trans h.kfree, (hs 3 (by decide)).trans h.mcell, ?_, (hz 4).trans h.nfree, ⟨n, ?_, ?_⟩, ?_, h.lt⟩
  · exact World.cell?_setCell_same _ _ _ ((hc 4).trans h.ncell)
  · show n + (σ.notes ++ [(e, x)]).length + σ.rest.length + b ≤ s.length
    simp
    omega
  · exact h2.kept ((Below.heap_setCell _ _ _ _ (Nat.ne_of_lt h.lt)).trans (hg.block m h2.lt (fun e => hnm e.symm)))
  · refine ⟨_, ?_, RepRow.snoc (x := (e, x)) rfl hrep⟩
    have : (σ.note e x).notes.length = σ.notes.length + 1 := by simp [Ent.RS.note]
    rw [this]
    exact hown.kept (grown_set w2 r 4 v2) (own_ne hown)
theorem step_noted {r m : Nat} {w w2 : World} {v v2 : Value} (hg : w.grownBy w2 v.ownBlock) (hat : v2.ownBlock = v.ownBlock ∨ v2.ownBlock = some (w.heap.size + 1)) :
    Step r m v v2 w (w2.setCell ⟨r, 4, none⟩ v2) :=
  ⟨hg.os, hg.tape, hg.output, by simpa using hg.size, fun k hk h1 _ h3 => (Below.heap_setCell _ _ _ _ h1).trans (hg.block k hk (fun e => h3 e.symm)), hat.imp id (fun e => ⟨_, e, by omega⟩)⟩

set_option maxRecDepth 100000 in
set_option maxHeartbeats 800000 in
theorem reader_note (s : List UInt8) (r m b : Nat) (σ : Ent.RS) (v : Value) (w : World) (e : Int) (x : List UInt8) (hs : s.length ≤ 1000000000) (hR : Rdr s r m (b + 1) w σ v) :
    Calls Tryd.prog 29 #[.pointer (some ⟨r, 0, none⟩), .int .i64 e, .string ⟨x.toArray⟩] w fun e' w' => e' = .returned (.tuple #[]) ∧ ∃ v', Rdr s r m b w' (σ.note e x) v' ∧ Step r m v v' w w' := by
  have e4 := hR.ncell
  have f4 := hR.nfree
  have hlt := hR.at'.lt
  obtain ⟨fl, hown, hrep⟩ := hR.notes
  obtain ⟨n, hn, hmap⟩ := hR.names
  obtain ⟨i0, hi, hz0, hz1, hz2⟩ := info_parts note_info
  have hne : v.ownBlock ≠ some r := by rcases own_ne hown with e | e
                                       · rw [e]; simp
                                       · exact e
  have hnm : v.ownBlock ≠ some m := fun e => by have := (hown.lt m e).1; have := hR.lt; omega
  have Hne := Lib.hid hne; have Hnm := Lib.hid hnm; have Hrep := Lib.hid hrep; clear hne hnm
  have Hown := Lib.hid hown; have HR := Lib.hid hR; have Hi := Lib.hid hi; have Hz0 := Lib.hid hz0; have Hz1 := Lib.hid hz1; have Hz2 := Lib.hid hz2
  have hcnt : σ.notes.length ≤ 1000000000 := by omega
  have hlt1 : r + 1 ≤ w.heap.size := hlt
  clear hown hR hi hz0 hz1 hz2 hrep hmap hn
  go_enter Tryd.func29, Tryd.ntmps29
  go_wp2_with (at_builtin; go_loud (refine wpList_append1 rfl (.tmp 10) (.tmp 14) 43 rfl (r + 1) 58 i0 (.agg #[.int .i64 0, .string ⟨#[]⟩]) 2 24 Tryd.underlying43 Hi.out Hz0.out Hz1.out Hz2.out (by rfl) (by decide) _ _ _ Hown.out rfl [.int .i64 e, .string ⟨x.toArray⟩] rfl (by simp) rfl (by simp [Value.oneCell']) (by unfold maxLen; omega) (by omega) hlt1 ?_); intro v2 w2 own2 g2 at2; obtain ⟨p2, cap2, rfl, hp2, hq2⟩ := own2.form (Nat.succ_pos _); have e24 := (grown_cell g2 hlt Hne.out 4).trans e4; have f24 := (grown_frozen g2 hlt Hne.out 4).trans f4; have Own2 := Lib.hid own2; have At2 := Lib.hid at2; have G2 := Lib.hid g2; clear own2 at2 g2)
  refine bodyPost_end (results_none rfl _ _ _) rfl ?_
  exact ⟨rfl, _, HR.out.noted Hne.out Hnm.out G2.out Hrep.out Own2.out, step_noted G2.out At2.out⟩
end Go.Proofs.YtddgdfcgjjdlcaaDoor
