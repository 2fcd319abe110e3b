/- The document's maps of files (stetref02): names, a file dropped, a file's text: plain, and their walks. The plain model of what entries may be shown, and how. Plain Lean, no program in sight. The walk of stetlaw15.Refs: entries, copied. -/
import Derived.Test.YtibinlpbcoihoaaGreatDoorG05
import Derived.Test.YtibinlpbcoihoaaGreatDoorG04
import Derived.BigQuiet
set_option linter.unusedSimpArgs false
set_option linter.unusedVariables false
namespace Go.Proofs.YtibinlpbcoihoaaGreatDoor
open Go.RowKit
theorem f2_w1 (i : Nat) (h : i ≤ 9223372036854775806) : wrap64 ((i : Int) + 1) = ((i + 1 : Nat) : Int) := by unfold wrap64; omega
namespace Ix
theorem nameB_arms (c : UInt8) : nameB c = ((decide (97 ≤ c.toNat) && decide (c.toNat ≤ 122)) || (decide (48 ≤ c.toNat) && decide (c.toNat ≤ 57)) || decide (c.toNat = 45) || decide (c.toNat = 46)) := by
  have := byte_all (fun c => nameB c == ((decide (97 ≤ c.toNat) && decide (c.toNat ≤ 122)) || (decide (48 ≤ c.toNat) && decide (c.toNat ≤ 57)) || decide (c.toNat = 45) || decide (c.toNat = 46))) (by decide +kernel) c
  simpa using this
abbrev Fl := List UInt8 × List UInt8
def drop (l : List Fl) (n : List UInt8) : List Fl := l.filter fun x => !(x.1 == n)
end Ix
set_option maxRecDepth 100000 in
set_option maxHeartbeats 1600000 in
theorem ref02_name (s : List UInt8) (w : World) (hs : s.length ≤ 9223372036854775807) :
    Calls Tryz.prog 45 #[.string ⟨s.toArray⟩] w fun e w' => e = .returned (.bool (Ix.nameOk s)) ∧ w' = w := by
  have Hs := Lib.hid hs; clear hs
  go_enter Tryz.func45, Tryz.ntmps45
  go_wp2_with fail
  go_loopw [2, 3] (fun _ iv wr => ∃ k : Nat, k ≤ s.length ∧ iv = .int .i64 (k : Int) ∧ (s.take k).all Ix.nameB = true ∧ wr = w) (fun _ iv _ => s.length - (intOf iv).toNat)
  case atStart => exact ⟨0, Nat.zero_le _, rfl, rfl, rfl⟩
  case round =>
    obtain ⟨k, hk, rfl, ht, hw⟩ := hrel
    subst hw
    have Ht := Lib.hid ht; clear ht
    by_cases hlt : k < s.length
    · obtain ⟨c, hc⟩ : ∃ c, s[k]? = some c := ⟨_, List.getElem?_eq_getElem hlt⟩
      have hlt' : (k : Int) < (s.length : Int) := by omega
      have hby := byte_at s k c hc
      have hwk := f2_w1 k (by have := Hs.out; omega)
      have Hc := Lib.hid hc; have Hlt := Lib.hid hlt; have Hwk := Lib.hid hwk
      have harm := Lib.hid (Ix.nameB_arms c)
      clear hc hlt hk hwk
      go_upto_region 5 with fail
      clear hlt' hby
      go_cut [36] from 14 to 36 (fun v W => v = .bool (!Ix.nameB c) ∧ W = wr)
      case first =>
        by_cases h1 : 97 ≤ c.toNat
        · by_cases h2 : c.toNat ≤ 122
          · have g0 : decide ((97 : Int) ≤ (c.toNat : Int)) = true := decide_eq_true (by omega)
            have g1 : decide ((c.toNat : Int) ≤ 122) = true := decide_eq_true (by omega)
            have hv := Lib.hid (show (!Ix.nameB c) = false by rw [harm.out]; simp; omega)
            clear h1 h2
            go_wp2_with fail
            go_meet
            exact ⟨by rw [hv.out], rfl⟩
          · have g0 : decide ((97 : Int) ≤ (c.toNat : Int)) = true := decide_eq_true (by omega)
            have g1 : decide ((c.toNat : Int) ≤ 122) = false := decide_eq_false (by omega)
            have g2 : decide ((48 : Int) ≤ (c.toNat : Int)) = true := decide_eq_true (by omega)
            have g3 : decide ((c.toNat : Int) ≤ 57) = false := decide_eq_false (by omega)
            have g4 : ((c.toNat : Int) == 45) = false := by first | (simp; omega) | (rw [beq_iff_eq]; omega)
            have g5 : ((c.toNat : Int) == 46) = false := by first | (simp; omega) | (rw [beq_iff_eq]; omega)
            have hv := Lib.hid (show (!Ix.nameB c) = true by rw [harm.out]; simp; omega)
            clear h1 h2
            go_wp2_with fail
            go_meet
            exact ⟨by rw [hv.out], rfl⟩
        · by_cases h3 : 48 ≤ c.toNat
          · by_cases h4 : c.toNat ≤ 57
            · have g0 : decide ((97 : Int) ≤ (c.toNat : Int)) = false := decide_eq_false (by omega)
              have g1 : decide ((48 : Int) ≤ (c.toNat : Int)) = true := decide_eq_true (by omega)
              have g2 : decide ((c.toNat : Int) ≤ 57) = true := decide_eq_true (by omega)
              have hv := Lib.hid (show (!Ix.nameB c) = false by rw [harm.out]; simp; omega)
              clear h1 h3 h4
              go_wp2_with fail
              go_meet
              exact ⟨by rw [hv.out], rfl⟩
            · have g0 : decide ((97 : Int) ≤ (c.toNat : Int)) = false := decide_eq_false (by omega)
              have g1 : decide ((48 : Int) ≤ (c.toNat : Int)) = true := decide_eq_true (by omega)
              have g2 : decide ((c.toNat : Int) ≤ 57) = false := decide_eq_false (by omega)
              have g3 : ((c.toNat : Int) == 45) = false := by first | (simp; omega) | (rw [beq_iff_eq]; omega)
              have g4 : ((c.toNat : Int) == 46) = false := by first | (simp; omega) | (rw [beq_iff_eq]; omega)
              have hv := Lib.hid (show (!Ix.nameB c) = true by rw [harm.out]; simp; omega)
              clear h1 h3 h4
              go_wp2_with fail
              go_meet
              exact ⟨by rw [hv.out], rfl⟩
          · by_cases h5 : c.toNat = 45
            · have g0 : decide ((97 : Int) ≤ (c.toNat : Int)) = false := decide_eq_false (by omega)
              have g1 : decide ((48 : Int) ≤ (c.toNat : Int)) = false := decide_eq_false (by omega)
              have g2 : ((c.toNat : Int) == 45) = true := by first | (simp; omega) | (rw [beq_iff_eq]; omega)
              have hv := Lib.hid (show (!Ix.nameB c) = false by rw [harm.out]; simp; omega)
              clear h1 h3 h5
              go_wp2_with fail
              go_meet
              exact ⟨by rw [hv.out], rfl⟩
            · by_cases h6 : c.toNat = 46
              · have g0 : decide ((97 : Int) ≤ (c.toNat : Int)) = false := decide_eq_false (by omega)
                have g1 : decide ((48 : Int) ≤ (c.toNat : Int)) = false := decide_eq_false (by omega)
                have g2 : ((c.toNat : Int) == 45) = false := by first | (simp; omega) | (rw [beq_iff_eq]; omega)
                have g3 : ((c.toNat : Int) == 46) = true := by first | (simp; omega) | (rw [beq_iff_eq]; omega)
                have hv := Lib.hid (show (!Ix.nameB c) = false by rw [harm.out]; simp; omega)
                clear h1 h3 h5 h6
                go_wp2_with fail
                go_meet
                exact ⟨by rw [hv.out], rfl⟩
              · have g0 : decide ((97 : Int) ≤ (c.toNat : Int)) = false := decide_eq_false (by omega)
                have g1 : decide ((48 : Int) ≤ (c.toNat : Int)) = false := decide_eq_false (by omega)
                have g2 : ((c.toNat : Int) == 45) = false := by first | (simp; omega) | (rw [beq_iff_eq]; omega)
                have g3 : ((c.toNat : Int) == 46) = false := by first | (simp; omega) | (rw [beq_iff_eq]; omega)
                have hv := Lib.hid (show (!Ix.nameB c) = true by rw [harm.out]; simp; omega)
                clear h1 h3 h5 h6
                go_wp2_with fail
                go_meet
                exact ⟨by rw [hv.out], rfl⟩
      case rest =>
        obtain ⟨rfl, hw⟩ := hcut
        have hw := hw.symm
        subst hw
        cases hn : Ix.nameB c with
        | true =>
          have Ht2 := Lib.hid (show (s.take (k + 1)).all Ix.nameB = true by rw [List.take_add_one, Hc.out, List.all_append, Ht.out]; simp [hn])
          clear hn
          go_wp2_with fail
          go_roundw
          case rel => exact ⟨k + 1, by have := Hlt.out; omega, by first | rfl | rw [Hwk.out], Ht2.out, trivial⟩
          case measure => have := Hlt.out; (try rw [Hwk.out]); simp [intOf]; omega
        | false =>
          have Hr := Lib.hid (show Ix.nameOk s = false by
            have h2 : s.all Ix.nameB = false := by
              rw [List.all_eq_false]
              exact ⟨c, List.mem_of_getElem? Hc.out, by rw [hn]; simp⟩
            unfold Ix.nameOk
            rw [h2]; rfl)
          clear hn
          go_wp2_with fail
          go_ret
          exact ⟨ret_bool Hr.out.symm, rfl⟩
    · have he : k = s.length := by omega
      subst he
      have ha := Ht.out
      rw [List.take_length] at ha
      have Ha := Lib.hid ha
      clear hlt hk ha
      by_cases h1 : 1 ≤ s.length
      · have g1 : decide ((1 : Int) ≤ (s.length : Int)) = true := decide_eq_true (by omega)
        by_cases h2 : s.length ≤ 24
        · have g2 : decide ((s.length : Int) ≤ 24) = true := decide_eq_true (by omega)
          have Hr := Lib.hid (show Ix.nameOk s = true by unfold Ix.nameOk; rw [Ha.out]; simp [h1, h2])
          clear h1 h2
          go_wp2_with fail
          go_ret
          exact ⟨ret_bool Hr.out.symm, rfl⟩
        · have g2 : decide ((s.length : Int) ≤ 24) = false := decide_eq_false (by omega)
          have Hr := Lib.hid (show Ix.nameOk s = false by unfold Ix.nameOk; rw [Ha.out]; simp; intro _; omega)
          clear h1 h2
          go_wp2_with fail
          go_ret
          exact ⟨ret_bool Hr.out.symm, rfl⟩
      · have g1 : decide ((1 : Int) ≤ (s.length : Int)) = false := decide_eq_false (by omega)
        have Hr := Lib.hid (show Ix.nameOk s = false by unfold Ix.nameOk; rw [Ha.out]; simp [h1])
        clear h1
        go_wp2_with fail
        go_ret
        exact ⟨ret_bool Hr.out.symm, rfl⟩
end Go.Proofs.YtibinlpbcoihoaaGreatDoor
namespace Go.Proofs.YtibinlpbcoihoaaGreatDoor.Ent
def brace1 (c : UInt8) : Bool := c == 123 || c == 125
def fieldOk (before : List Fld) (f : Fld) : Bool := marked f.name && small f.name == f.name && !(before.any fun g => g.name == f.name) && !(f.text.any brace1) && decide (f.text.length ≤ 1000)
def fieldsOk : List Fld → List Fld → Bool
  | _, [] => true
  | before, f :: fs => fieldOk before f && fieldsOk (before ++ [f]) fs
def headOk (before : List Ent) (x : Ent) : Bool := marked x.kind && small x.kind == x.kind && !(x.kind == strW) && marked x.key && !(has before x.key)
def rightN : List Ent → List Ent → Bool
  | _, [] => true
  | before, x :: l => headOk before x && fieldsOk [] x.fields && rightN (before ++ [x]) l
def right (l : List Ent) : Bool := rightN [] l
end Go.Proofs.YtibinlpbcoihoaaGreatDoor.Ent
namespace Go.Proofs.YtibinlpbcoihoaaGreatDoor
open Go.RowKit

/-- entries as they are copied: everything from B on is the call's own -/
def Outs (B : Nat) (t : TypeId) (W : World) (vo : Value) (out : List Ent.Ent) : Prop := ∃ fl, W.ownsRow B t 3 vo out.length fl ∧ RepRow (REnt (fun j => B ≤ j ∧ vo.ownBlock ≠ some j) W) out fl
theorem Outs.below {B : Nat} {t : TypeId} {W W' : World} {vo : Value} {out : List Ent.Ent} (h : Outs B t W vo out) (hb : Below W.heap.size W W') : Outs B t W' vo out := by
  obtain ⟨fl, h1, h2⟩ := h
  exact ⟨fl, own_below h1 hb, h2.imp (fun x vs _ hx => hx.kept (fun _ h => h) hb.size (fun b _ hlt => hb.block b hlt))⟩
/-- an entry as its fields are copied -/
structure Cop (g : Nat) (t : TypeId) (k y : List UInt8) (fs : List Ent.Fld) (vf : Value) (W : World) : Prop where
  ck : W.cell? ⟨g, 0, none⟩ = some (.string ⟨k.toArray⟩)
  cy : W.cell? ⟨g, 1, none⟩ = some (.string ⟨y.toArray⟩)
  cv : W.cell? ⟨g, 2, none⟩ = some vf
  free : W.frozen? ⟨g, 2, none⟩ = false
  lt : g < W.heap.size
  row : ∃ fl, W.ownsRow (g + 1) t 2 vf fs.length fl ∧ RepRow RFld fs fl
theorem Cop.below {g : Nat} {t : TypeId} {k y : List UInt8} {fs : List Ent.Fld} {vf : Value} {W W' : World} (h : Cop g t k y fs vf W) (hb : Below W.heap.size W W') : Cop g t k y fs vf W' :=
  ⟨(hb.cell (p := ⟨g, 0, none⟩) h.lt).trans h.ck, (hb.cell (p := ⟨g, 1, none⟩) h.lt).trans h.cy, (hb.cell (p := ⟨g, 2, none⟩) h.lt).trans h.cv, (hb.frozen (p := ⟨g, 2, none⟩) h.lt).trans h.free, Nat.lt_of_lt_of_le h.lt hb.size, let ⟨fl, h1, h2⟩ := h.row; ⟨fl, own_below h1 hb, h2⟩⟩
theorem Cop.new (w : World) (t t2 : TypeId) (k y : List UInt8) : Cop w.heap.size t2 k y [] (.slice none 0 0) (w.alloc (.cells #[.string ⟨k.toArray⟩, .string ⟨y.toArray⟩, .slice none 0 0] t)) := by
  have c : ∀ (i : Nat) (u : Value), #[Value.string ⟨k.toArray⟩, .string ⟨y.toArray⟩, .slice none 0 0][i]? = some u → (w.alloc (.cells #[.string ⟨k.toArray⟩, .string ⟨y.toArray⟩, .slice none 0 0] t)).cell? ⟨w.heap.size, i, none⟩ = some u := by
    intro i u hu
    rw [cell_of_row _ _ _ _ _ _ (heap_alloc_new w _)]
    exact hu
  exact ⟨c 0 _ rfl, c 1 _ rfl, c 2 _ rfl, new_frozen w _ t 2, lt_alloc _ _, [], ⟨rfl, .inl ⟨rfl, rfl⟩⟩, rfl⟩
/-- a field more -/
theorem Cop.more {g : Nat} {t : TypeId} {k y : List UInt8} {fs : List Ent.Fld} {vf : Value} {W W' : World} (h : Cop g t k y fs vf W) {vf' : Value} {f : Ent.Fld} {fl : List Value} (hrep : RepRow RFld fs fl) (hown : W'.ownsRow (g + 1) t 2 vf' (fs.length + 1) (fl ++ [.string ⟨f.name.toArray⟩, .string ⟨f.text.toArray⟩])) (hg : W.grownBy W' vf.ownBlock) :
    Cop g t k y (fs ++ [f]) vf' (W'.setCell ⟨g, 2, none⟩ vf') := by
  obtain ⟨fl0, h1, _⟩ := h.row
  have hne : vf.ownBlock ≠ some g := fun e => by have := (h1.lt g e).1; omega
  have hc := fun i => grown_cell hg h.lt hne i
  have hs : ∀ i, i ≠ 2 → (W'.setCell ⟨g, 2, none⟩ vf').cell? ⟨g, i, none⟩ = W.cell? ⟨g, i, none⟩ := fun i hi => (World.cell?_setCell_other _ _ _ _ (fun e => hi (by cases e; rfl))).trans (hc i)
  refine ⟨(hs 0 (by decide)).trans h.ck, (hs 1 (by decide)).trans h.cy, World.cell?_setCell_same _ _ _ ((hc 2).trans h.cv), by simpa using (grown_frozen hg h.lt hne 2).trans h.free, by simpa using Nat.lt_of_lt_of_le h.lt hg.size, _, ?_, RepRow.snoc (x := f) rfl hrep⟩
  rw [List.length_append]
  exact hown.kept (grown_set W' g 2 vf') (own_ne hown)

theorem Outs.more {B : Nat} {t : TypeId} {W W' : World} {vo vo' vf : Value} {out : List Ent.Ent} {x : Ent.Ent} {fl : List Value} (hz : B ≤ W.heap.size) (hrep : RepRow (REnt (fun j => B ≤ j ∧ vo.ownBlock ≠ some j) W) out fl)
    (hx : SliceIn (fun j => B ≤ j ∧ vo.ownBlock ≠ some j) 2 RFld W vf x.fields) (hown : W'.ownsRow B t 3 vo' (out.length + 1) (fl ++ [.string ⟨x.kind.toArray⟩, .string ⟨x.key.toArray⟩, vf])) (hg : W.grownBy W' vo.ownBlock)
    (hat : vo'.ownBlock = vo.ownBlock ∨ vo'.ownBlock = some (W.heap.size + 1)) : Outs B t W' vo' (out ++ [x]) := by
  have hk : ∀ j, (B ≤ j ∧ vo.ownBlock ≠ some j) → j < W.heap.size → (B ≤ j ∧ vo'.ownBlock ≠ some j) ∧ W'.heap[j]? = W.heap[j]? := fun j hj hlt => by
    refine ⟨⟨hj.1, ?_⟩, hg.block j hlt (fun e => hj.2 e.symm)⟩
    rcases hat with e | e
    · rw [e]; exact hj.2
    · rw [e]; intro e2; injection e2 with e2; omega
  refine ⟨_, ?_, RepRow.snoc (x := x) ⟨vf, rfl, hx.moved hk hg.size (fun _ _ _ h => h)⟩ (hrep.imp (fun y us _ hy => hy.moved hk hg.size))⟩
  rw [List.length_append]
  exact hown
theorem Cop.form {g : Nat} {t : TypeId} {k y : List UInt8} {fs : List Ent.Fld} {vf : Value} {W : World} (h : Cop g t k y fs vf W) : ∃ p n c, vf = .slice p n c := by
  obtain ⟨fl, h1, _⟩ := h.row
  rcases h1.2 with ⟨h, _⟩ | ⟨g, cap, cur, h, _⟩
  · exact ⟨_, _, _, h⟩
  · exact ⟨_, _, _, h⟩

end Go.Proofs.YtibinlpbcoihoaaGreatDoor
