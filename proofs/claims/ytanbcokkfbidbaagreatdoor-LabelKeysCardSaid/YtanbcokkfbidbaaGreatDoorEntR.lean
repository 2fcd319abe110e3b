/- Entries and fields in memory; the walk of entry.Get. -/
import Derived.Test.YtanbcokkfbidbaaGreatDoorEA
namespace Go.Proofs.YtanbcokkfbidbaaGreatDoor
open Go.RowKit
namespace Ent
structure Fld where
  name : List UInt8
  text : List UInt8
structure Ent where
  kind : List UInt8
  key : List UInt8
  fields : List Fld
def get (fs : List Fld) (name : List UInt8) : List UInt8 × Bool :=
  match fs.find? (fun f => f.name == name) with
  | some f => (f.text, true)
  | none => ([], false)
end Ent
def RFld (f : Ent.Fld) (vs : List Value) : Prop := vs = [.string ⟨f.name.toArray⟩, .string ⟨f.text.toArray⟩]
theorem RFld.size (f : Ent.Fld) (vs : List Value) (h : RFld f vs) : vs.length = 2 := by rw [h]; rfl
def REnt (S : Nat → Prop) (w : World) (x : Ent.Ent) (vs : List Value) : Prop := ∃ vf, vs = [.string ⟨x.kind.toArray⟩, .string ⟨x.key.toArray⟩, vf] ∧ SliceIn S 2 RFld w vf x.fields
theorem REnt.size {S : Nat → Prop} {w : World} (x : Ent.Ent) (vs : List Value) (h : REnt S w x vs) : vs.length = 3 := by obtain ⟨vf, rfl, _⟩ := h; rfl
def Ents (S : Nat → Prop) (w : World) (v : Value) (l : List Ent.Ent) : Prop := SliceIn S 3 (REnt S w) w v l
theorem REnt.kept {S S' : Nat → Prop} {w w' : World} {x : Ent.Ent} {vs : List Value} (h : REnt S w x vs) (hs : ∀ b, S b → S' b) (hz : w.heap.size ≤ w'.heap.size) (hb : ∀ b, S b → b < w.heap.size → w'.heap[b]? = w.heap[b]?) : REnt S' w' x vs := by
  obtain ⟨vf, rfl, h⟩ := h
  exact ⟨vf, rfl, h.kept hs hz hb (fun _ _ _ h => h)⟩
theorem Ents.kept {S S' : Nat → Prop} {w w' : World} {v : Value} {l : List Ent.Ent} (h : Ents S w v l) (hs : ∀ b, S b → S' b) (hz : w.heap.size ≤ w'.heap.size) (hb : ∀ b, S b → b < w.heap.size → w'.heap[b]? = w.heap[b]?) : Ents S' w' v l :=
  SliceIn.kept h hs hz hb (fun _ _ _ h => h.kept hs hz hb)
theorem Ents.below {S : Nat → Prop} {w w' : World} {v : Value} {l : List Ent.Ent} (h : Ents S w v l) (hb : Below w.heap.size w w') : Ents S w' v l :=
  Ents.kept h (fun _ h => h) hb.size (fun b _ hlt => hb.block b hlt)

theorem lt_alloc (w : World) (o : Obj) : w.heap.size < (w.alloc o).heap.size := by
  show w.heap.size < (w.heap.push o).size
  rw [Array.size_push]; omega

set_option maxRecDepth 100000 in
set_option maxHeartbeats 400000 in
theorem entry_get (fs : List Ent.Fld) (v0 v1 vF : Value) (name : List UInt8) (S : Nat → Prop) (w : World) (hF : SliceIn S 2 RFld w vF fs) :
    Calls Tryz.prog 27 #[.agg #[v0, v1, vF], .string ⟨name.toArray⟩] w fun e w' => e = .returned (.tuple #[.string ⟨(Ent.get fs name).1.toArray⟩, .bool (Ent.get fs name).2]) ∧ Below w.heap.size w w' := by
  obtain ⟨p, cap, rfl, hle, hm, hat⟩ := hF
  have hlm : fs.length ≤ 9223372036854775807 := by unfold maxLen at hm; omega
  have Hat := Lib.hid hat; clear hat hm hle
  go_enter Tryz.func27, Tryz.ntmps27
  go_wp2_with fail
  go_loopw [11] (fun i wr => ∃ k : Nat, k ≤ fs.length ∧ i = .int .i64 k ∧ (fs.take k).find? (fun f => f.name == name) = none ∧ Below w.heap.size w wr ∧ w.heap.size < wr.heap.size) (fun i _ => fs.length - (intOf i).toNat)
  case atStart => exact ⟨0, Nat.zero_le _, rfl, rfl, (Below.refl _ _).alloc (Nat.le_refl _) _, lt_alloc _ _⟩
  case round =>
    obtain ⟨k, hk, rfl, hno, hb, hz⟩ := hrel
    have Hno := Lib.hid hno; clear hno
    by_cases hlt : k < fs.length
    · obtain ⟨f, hf⟩ : ∃ f, fs[k]? = some f := ⟨_, List.getElem?_eq_getElem hlt⟩
      obtain ⟨b, off, vs, rfl, _, hbw, hR, hc⟩ := Hat.out k f hf
      subst hR
      have e0 : wr.cell? ⟨b, off + k * 2, none⟩ = some (.string ⟨f.name.toArray⟩) := (hb.cell (p := ⟨b, off + k * 2, none⟩) hbw).trans (hc 0 _ rfl)
      have e1 : wr.cell? ⟨b, off + k * 2 + 1, none⟩ = some (.string ⟨f.text.toArray⟩) := (hb.cell (p := ⟨b, off + k * 2 + 1, none⟩) hbw).trans (hc 1 _ rfl)
      have hfind : fs.find? (fun f => f.name == name) = if (f.name == name) = true then some f else (fs.drop (k + 1)).find? (fun f => f.name == name) := by
        obtain ⟨hk', e⟩ := List.getElem?_eq_some_iff.1 hf
        conv => lhs; rw [← List.take_append_drop k fs, List.find?_append, Hno.out, Option.none_or, List.drop_eq_getElem_cons hk', e]
        rw [List.find?_cons]
        cases hp : (f.name == name) <;> rfl
      have hstep : (f.name == name) = false → (fs.take (k + 1)).find? (fun f => f.name == name) = none := by
        intro h
        rw [List.take_add_one, hf, List.find?_append, Hno.out]
        simp [h]
      have Hfind := Lib.hid hfind; have Hstep := Lib.hid hstep; have Hb := Lib.hid hb
      have hlt' : (k : Int) < (fs.length : Int) := by omega
      have hkl : (k : Int) + 1 ≤ 9223372036854775807 := by omega
      clear hc hf hb hfind hstep
      cases hp : (f.name == name)
      · have Hp := Lib.hid hp
        go_wp2_with fail
        go_roundw
        case rel => exact ⟨k + 1, by omega, by go_num, Hstep.out Hp.out, (Hb.out.alloc (Nat.le_of_lt hz) _), Nat.lt_trans hz (lt_alloc _ _)⟩
        case measure => simp [intOf]; omega
      · have Hp := Lib.hid hp
        go_wp2_with fail
        go_ret2
        refine ⟨?_, (Hb.out.alloc (Nat.le_of_lt hz) _)⟩
        unfold Ent.get
        rw [Hfind.out, Hp.out]
        rfl
    · go_wp2_with fail
      go_ret2
      refine ⟨?_, hb⟩
      have h := Hno.out
      rw [List.take_of_length_le (by omega)] at h
      unfold Ent.get
      rw [h]
      rfl
end Go.Proofs.YtanbcokkfbidbaaGreatDoor
