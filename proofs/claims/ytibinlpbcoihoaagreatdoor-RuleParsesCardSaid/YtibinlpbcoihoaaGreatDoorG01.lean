/- The walks of package entry: small letters. Entries and fields in memory; the walk of entry.Get. The plain model of the reader of package entry. Plain Lean, no program in sight. -/
import Derived.Test.YtibinlpbcoihoaaGreatDoorG00
set_option linter.unusedSimpArgs false
set_option linter.unusedVariables false
namespace Go.Proofs.YtibinlpbcoihoaaGreatDoor
open Go.RowKit

def smallTo (k : Nat) (l : List UInt8) : List UInt8 := Ent.small (l.take k) ++ l.drop k
theorem smallTo_length (k : Nat) (l : List UInt8) : (smallTo k l).length = l.length := by
  unfold smallTo Ent.small
  simp; omega
theorem smallTo_get (k : Nat) (l : List UInt8) (x : UInt8) (h : l[k]? = some x) : (smallTo k l)[k]? = some x := by
  obtain ⟨hk, e⟩ := List.getElem?_eq_some_iff.1 h
  unfold smallTo Ent.small
  rw [List.getElem?_append_right (by simp; omega)]
  simp [Nat.min_eq_left (Nat.le_of_lt hk), h]
theorem smallTo_step (k : Nat) (l : List UInt8) (x : UInt8) (h : l[k]? = some x) : smallTo (k + 1) l = (smallTo k l).set k (Ent.low x) := by
  obtain ⟨hk, e⟩ := List.getElem?_eq_some_iff.1 h
  unfold smallTo Ent.small
  rw [List.take_add_one, h, List.set_append_right _ _ (by simp; omega)]
  rw [List.drop_eq_getElem_cons hk, e]
  simp [Nat.min_eq_left (Nat.le_of_lt hk)]

set_option maxRecDepth 100000 in
set_option maxHeartbeats 400000 in
theorem entry_small (l : List UInt8) (w : World) (hl : l.length ≤ maxLen) :
    Calls Tryz.prog 258 #[.string ⟨l.toArray⟩] w fun e w' => e = .returned (.string ⟨(Ent.small l).toArray⟩) ∧ Below w.heap.size w w' := by
  have hmax : l.length ≤ 9223372036854775807 := by unfold maxLen at hl; omega
  obtain ⟨cap, hcap⟩ : ∃ cap, cap = grownCap w l.length 0 5 := ⟨_, rfl⟩
  have hcl : l.length ≤ cap := by rw [hcap]; exact grownCap_ge w l.length 0 5
  obtain ⟨W, hW⟩ : ∃ W, W = w.drew.alloc (.cells (bytesRow ⟨l.toArray⟩ cap) 5 ((bytesRow ⟨l.toArray⟩ cap).size, (bytesRow ⟨l.toArray⟩ cap).size + 1)) := ⟨_, rfl⟩
  have hcv : (convert 9 230 (.string ⟨l.toArray⟩)).run Tryz.prog w = .ok (.slice (some ⟨w.heap.size, 0, none⟩) l.length cap) W := by
    rw [hW, run_bytes_of_string (P := Tryz.prog) w 9 230 5 ⟨l.toArray⟩ Tryz.underlying9 Tryz.underlying230 Tryz.underlying5, size_mk, ← hcap]
  have hrow : ByteRow W w.heap.size l := by rw [hW]; exact byteRow_new w l cap 5 hcl
  have hbW : Below w.heap.size w W := by rw [hW]; exact ((Below.refl w.heap.size w).drew).alloc (Nat.le_refl _) _
  clear hW hcap hl
  have Hrow := Lib.hid hrow; have HbW := Lib.hid hbW; clear hrow hbW
  go_enter Tryz.func258, Tryz.ntmps258
  go_wp2_with fail
  clear hcv
  go_loopw [10] (fun i wr => ∃ k : Nat, k ≤ l.length ∧ i = .int .i64 k ∧ ByteRow wr w.heap.size (smallTo k l) ∧ Below w.heap.size w wr) (fun i _ => l.length - (intOf i).toNat)
  case atStart => exact ⟨0, Nat.zero_le _, rfl, by simpa [smallTo, Ent.small] using Hrow.out, HbW.out⟩
  case round =>
    clear Hrow HbW
    obtain ⟨k, hk, rfl, hrow, hb⟩ := hrel
    by_cases hlt : k < l.length
    · obtain ⟨x, hx⟩ : ∃ x, l[k]? = some x := ⟨_, List.getElem?_eq_getElem hlt⟩
      have e0 := hrow.cell k x (smallTo_get k l x hx)
      have f0 := hrow.free k (by rw [smallTo_length]; exact hlt)
      have hlt' : (k : Int) < (l.length : Int) := by omega
      have Hrow := Lib.hid hrow; have Hb := Lib.hid hb; have Hx := Lib.hid hx
      clear hrow hb hx
      have hx256 := x.toNat_lt
      by_cases hup : 65 ≤ x.toNat ∧ x.toNat ≤ 90
      · have g1 : (65 : Int) ≤ (x.toNat : Int) := by omega
        have g2 : (x.toNat : Int) ≤ 90 := by omega
        obtain ⟨c, hc⟩ : ∃ c : UInt8, c = x + 32 := ⟨_, rfl⟩
        have hlow : Ent.low x = c := by unfold Ent.low; rw [if_pos hup, hc]
        have hw1 : IntKind.u8.wrap ((x.toNat : Int) + 97) = (x.toNat : Int) + 97 := IntWalk.u8_in _ (by omega)
        have hw2 : IntKind.u8.wrap ((x.toNat : Int) + 97 - 65) = (c.toNat : Int) := by
          rw [IntWalk.u8_in _ (by omega), hc, UInt8.toNat_add]
          simp
          omega
        clear hc
        have Hlow := Lib.hid hlow
        clear hup hlow
        go_wp2_with fail
        go_roundw
        case rel =>
          refine ⟨k + 1, by omega, by go_num, ?_, ?_⟩
          · rw [smallTo_step k l x Hx.out, Hlow.out]
            exact Hrow.out.set k (by rw [smallTo_length]; exact hlt) c
          · exact Hb.out.setCell (Nat.le_refl _) _
        case measure => simp [intOf]; omega
      · have hlow : Ent.low x = x := by unfold Ent.low; rw [if_neg hup]
        have Hlow := Lib.hid hlow
        clear hlow
        have hsame : smallTo (k + 1) l = smallTo k l := by
          rw [smallTo_step k l x Hx.out, Hlow.out]
          have h := smallTo_get k l x Hx.out
          obtain ⟨h1, h2⟩ := List.getElem?_eq_some_iff.1 h
          rw [← h2]
          exact List.set_getElem_self h1
        have Hsame := Lib.hid hsame; clear hsame
        by_cases h65 : 65 ≤ x.toNat
        · have g1 : (65 : Int) ≤ (x.toNat : Int) := by omega
          have g2 : ¬ (x.toNat : Int) ≤ 90 := by omega
          clear hup
          go_wp2_with fail
          go_roundw
          case rel => exact ⟨k + 1, by omega, by go_num, by rw [Hsame.out]; exact Hrow.out, Hb.out⟩
          case measure => simp [intOf]; omega
        · have g1 : ¬ (65 : Int) ≤ (x.toNat : Int) := by omega
          clear hup
          go_wp2_with fail
          go_roundw
          case rel => exact ⟨k + 1, by omega, by go_num, by rw [Hsame.out]; exact Hrow.out, Hb.out⟩
          case measure => simp [intOf]; omega
    · have hkl : k = l.length := by omega
      have hst : smallTo k l = Ent.small l := by unfold smallTo; rw [hkl]; simp
      rw [hst] at hrow
      have hlen : (Ent.small l).length = l.length := by unfold Ent.small; simp
      have hback := run_convert_bytes_back (P := Tryz.prog) wr 230 9 5 ⟨w.heap.size, 0, none⟩ cap (Ent.small l) Tryz.underlying230 Tryz.underlying5 Tryz.underlying9 (fun j hj => by
        rw [Addr.add_lit, Nat.zero_add]
        exact hrow.cell j _ (List.getElem?_eq_getElem hj))
      rw [hlen] at hback
      have Hb := Lib.hid hb; clear hb hrow hst
      go_wp2_with fail
      go_ret
      exact ⟨rfl, Hb.out⟩
end Go.Proofs.YtibinlpbcoihoaaGreatDoor
namespace Go.Proofs.YtibinlpbcoihoaaGreatDoor
open Go.RowKit
namespace Ent
structure Fld where
  name : List UInt8
  text : List UInt8
structure Ent where
  kind : List UInt8
  key : List UInt8
  fields : List Fld
def get (fs : List Fld) (name : List UInt8) : List UInt8 × Bool :=
  match fs.find? (fun f => f.name == name) with
  | some f => (f.text, true)
  | none => ([], false)
end Ent
def RFld (f : Ent.Fld) (vs : List Value) : Prop := vs = [.string ⟨f.name.toArray⟩, .string ⟨f.text.toArray⟩]
theorem RFld.size (f : Ent.Fld) (vs : List Value) (h : RFld f vs) : vs.length = 2 := by rw [h]; rfl
def REnt (S : Nat → Prop) (w : World) (x : Ent.Ent) (vs : List Value) : Prop := ∃ vf, vs = [.string ⟨x.kind.toArray⟩, .string ⟨x.key.toArray⟩, vf] ∧ SliceIn S 2 RFld w vf x.fields
theorem REnt.size {S : Nat → Prop} {w : World} (x : Ent.Ent) (vs : List Value) (h : REnt S w x vs) : vs.length = 3 := by obtain ⟨vf, rfl, _⟩ := h; rfl
def Ents (S : Nat → Prop) (w : World) (v : Value) (l : List Ent.Ent) : Prop := SliceIn S 3 (REnt S w) w v l
theorem REnt.kept {S S' : Nat → Prop} {w w' : World} {x : Ent.Ent} {vs : List Value} (h : REnt S w x vs) (hs : ∀ b, S b → S' b) (hz : w.heap.size ≤ w'.heap.size) (hb : ∀ b, S b → b < w.heap.size → w'.heap[b]? = w.heap[b]?) : REnt S' w' x vs := by
  obtain ⟨vf, rfl, h⟩ := h
  exact ⟨vf, rfl, h.kept hs hz hb (fun _ _ _ h => h)⟩
theorem Ents.kept {S S' : Nat → Prop} {w w' : World} {v : Value} {l : List Ent.Ent} (h : Ents S w v l) (hs : ∀ b, S b → S' b) (hz : w.heap.size ≤ w'.heap.size) (hb : ∀ b, S b → b < w.heap.size → w'.heap[b]? = w.heap[b]?) : Ents S' w' v l :=
  SliceIn.kept h hs hz hb (fun _ _ _ h => h.kept hs hz hb)
theorem Ents.below {S : Nat → Prop} {w w' : World} {v : Value} {l : List Ent.Ent} (h : Ents S w v l) (hb : Below w.heap.size w w') : Ents S w' v l :=
  Ents.kept h (fun _ h => h) hb.size (fun b _ hlt => hb.block b hlt)

theorem lt_alloc (w : World) (o : Obj) : w.heap.size < (w.alloc o).heap.size := by
  show w.heap.size < (w.heap.push o).size
  rw [Array.size_push]; omega

set_option maxRecDepth 100000 in
set_option maxHeartbeats 400000 in
theorem entry_get (fs : List Ent.Fld) (v0 v1 vF : Value) (name : List UInt8) (S : Nat → Prop) (w : World) (hF : SliceIn S 2 RFld w vF fs) :
    Calls Tryz.prog 263 #[.agg #[v0, v1, vF], .string ⟨name.toArray⟩] w fun e w' => e = .returned (.tuple #[.string ⟨(Ent.get fs name).1.toArray⟩, .bool (Ent.get fs name).2]) ∧ Below w.heap.size w w' := by
  obtain ⟨p, cap, rfl, hle, hm, hat⟩ := hF
  have hlm : fs.length ≤ 9223372036854775807 := by unfold maxLen at hm; omega
  have Hat := Lib.hid hat; clear hat hm hle
  go_enter Tryz.func263, Tryz.ntmps263
  go_wp2_with fail
  go_loopw [11] (fun i wr => ∃ k : Nat, k ≤ fs.length ∧ i = .int .i64 k ∧ (fs.take k).find? (fun f => f.name == name) = none ∧ Below w.heap.size w wr ∧ w.heap.size < wr.heap.size) (fun i _ => fs.length - (intOf i).toNat)
  case atStart => exact ⟨0, Nat.zero_le _, rfl, rfl, (Below.refl _ _).alloc (Nat.le_refl _) _, lt_alloc _ _⟩
  case round =>
    obtain ⟨k, hk, rfl, hno, hb, hz⟩ := hrel
    have Hno := Lib.hid hno; clear hno
    by_cases hlt : k < fs.length
    · obtain ⟨f, hf⟩ : ∃ f, fs[k]? = some f := ⟨_, List.getElem?_eq_getElem hlt⟩
      obtain ⟨b, off, vs, rfl, _, hbw, hR, hc⟩ := Hat.out k f hf
      subst hR
      have e0 : wr.cell? ⟨b, off + k * 2, none⟩ = some (.string ⟨f.name.toArray⟩) := (hb.cell (p := ⟨b, off + k * 2, none⟩) hbw).trans (hc 0 _ rfl)
      have e1 : wr.cell? ⟨b, off + k * 2 + 1, none⟩ = some (.string ⟨f.text.toArray⟩) := (hb.cell (p := ⟨b, off + k * 2 + 1, none⟩) hbw).trans (hc 1 _ rfl)
      have hfind : fs.find? (fun f => f.name == name) = if (f.name == name) = true then some f else (fs.drop (k + 1)).find? (fun f => f.name == name) := by
        obtain ⟨hk', e⟩ := List.getElem?_eq_some_iff.1 hf
        conv => lhs; rw [← List.take_append_drop k fs, List.find?_append, Hno.out, Option.none_or, List.drop_eq_getElem_cons hk', e]
        rw [List.find?_cons]
        cases hp : (f.name == name) <;> rfl
      have hstep : (f.name == name) = false → (fs.take (k + 1)).find? (fun f => f.name == name) = none := by
        intro h
        rw [List.take_add_one, hf, List.find?_append, Hno.out]
        simp [h]
      have Hfind := Lib.hid hfind; have Hstep := Lib.hid hstep; have Hb := Lib.hid hb
      have hlt' : (k : Int) < (fs.length : Int) := by omega
      have hkl : (k : Int) + 1 ≤ 9223372036854775807 := by omega
      clear hc hf hb hfind hstep
      cases hp : (f.name == name)
      · have Hp := Lib.hid hp
        go_wp2_with fail
        go_roundw
        case rel => exact ⟨k + 1, by omega, by go_num, Hstep.out Hp.out, (Hb.out.alloc (Nat.le_of_lt hz) _), Nat.lt_trans hz (lt_alloc _ _)⟩
        case measure => simp [intOf]; omega
      · have Hp := Lib.hid hp
        go_wp2_with fail
        go_ret2
        refine ⟨?_, (Hb.out.alloc (Nat.le_of_lt hz) _)⟩
        unfold Ent.get
        rw [Hfind.out, Hp.out]
        rfl
    · go_wp2_with fail
      go_ret2
      refine ⟨?_, hb⟩
      have h := Hno.out
      rw [List.take_of_length_le (by omega)] at h
      unfold Ent.get
      rw [h]
      rfl
end Go.Proofs.YtibinlpbcoihoaaGreatDoor
namespace Go.Proofs.YtibinlpbcoihoaaGreatDoor.Ent

def blank (c : UInt8) : Bool := c == 32 || c == 9 || c == 10
/-- behind blanks -/
def bl (l : List UInt8) : List UInt8 := l.dropWhile blank
def hd : List UInt8 → Int | [] => 0 | x :: _ => (x.toNat : Int)
/-- goes over a byte, if it is next -/
def isB (c : UInt8) (l : List UInt8) : Bool := match bl l with | [] => false | x :: _ => x == c
def isL (c : UInt8) (l : List UInt8) : List UInt8 := match bl l with | [] => [] | x :: r => if x == c then r else x :: r
/-- what is wrong at a place -/
def err (l : List UInt8) : Int := if l.isEmpty then 6 else 5
def mark (l : List UInt8) : Option (List UInt8) × List UInt8 :=
  let m := (bl l).takeWhile sign
  (if m.isEmpty then none else some m, (bl l).dropWhile sign)
def quoted (l : List UInt8) : Option (List UInt8) × List UInt8 :=
  match l.dropWhile (fun c => !(c == 34)) with
  | [] => (none, [])
  | _ :: r => (some (l.takeWhile (fun c => !(c == 34))), r)
/-- what stands up to the brace that closes; so many are open -/
def brace : Nat → List UInt8 → List UInt8 → Option (List UInt8) × List UInt8
  | _, _, [] => (none, [])
  | deep, acc, x :: r =>
    let d := if x == 123 then deep + 1 else if x == 125 then deep - 1 else deep
    if d == 0 then (some acc, r) else brace d (acc ++ [x]) r
def braced (l : List UInt8) : Option (List UInt8) × List UInt8 := brace 1 [] l
def digit (c : UInt8) : Bool := decide (48 ≤ c.toNat) && decide (c.toNat ≤ 57)

structure RS where
  rest : List UInt8
  kind : List UInt8
  names : List UInt8 → Option (List UInt8)
  notes : List (Int × List UInt8)
def RS.at (σ : RS) (l : List UInt8) : RS := { σ with rest := l }
def RS.note (σ : RS) (e : Int) (s : List UInt8) : RS := { σ with notes := σ.notes ++ [(e, s)] }
def part (σ : RS) : Option (List UInt8) × RS :=
  if isB 34 σ.rest then ((quoted (isL 34 σ.rest)).1, σ.at (quoted (isL 34 σ.rest)).2)
  else if isB 123 σ.rest then ((braced (isL 123 σ.rest)).1, σ.at (braced (isL 123 σ.rest)).2)
  else match (mark σ.rest).1 with
    | none => (none, σ.at (mark σ.rest).2)
    | some m =>
      if (small m).all digit then (some (small m), σ.at (mark σ.rest).2)
      else match σ.names (small m) with
        | some t => (some t, σ.at (mark σ.rest).2)
        | none => (some [], (σ.at (mark σ.rest).2).note 4 (small m))
def valueN : Nat → List UInt8 → RS → Option (List UInt8) × RS
  | 0, _, σ => (none, σ)
  | n + 1, acc, σ =>
    match (part σ).1 with
    | none => (none, (part σ).2)
    | some t =>
      if isB 35 (part σ).2.rest then valueN n ((acc ++ t).take 1000) ((part σ).2.at (isL 35 (part σ).2.rest))
      else (some ((acc ++ t).take 1000), (part σ).2.at (isL 35 (part σ).2.rest))
def value (σ : RS) : Option (List UInt8) × RS := valueN (σ.rest.length + 1) [] σ
/-- a byte has to be next -/
def must (c : UInt8) (σ : RS) : Bool × RS := (isB c σ.rest, σ.at (isL c σ.rest))
def markS (σ : RS) : Option (List UInt8) × RS := ((mark σ.rest).1, σ.at (mark σ.rest).2)
/-- a name, and what it stands for, or a field -/
def pair (σ : RS) : Option (List UInt8 × List UInt8) × RS :=
  match (markS σ).1 with
  | none => (none, (markS σ).2)
  | some m =>
    if isB 61 (markS σ).2.rest then
      match (value ((markS σ).2.at (isL 61 (markS σ).2.rest))).1 with
      | none => (none, (value ((markS σ).2.at (isL 61 (markS σ).2.rest))).2)
      | some t => (some (small m, t), (value ((markS σ).2.at (isL 61 (markS σ).2.rest))).2)
    else (none, (markS σ).2.at (isL 61 (markS σ).2.rest))
def fieldsN : Nat → List Fld → RS → Option (List Fld) × RS
  | 0, _, σ => (none, σ)
  | n + 1, fs, σ =>
    if isB 125 σ.rest then (some fs, σ.at (isL 125 σ.rest))
    else if isB 44 (isL 125 σ.rest) then
      if isB 125 (isL 44 (isL 125 σ.rest)) then (some fs, σ.at (isL 125 (isL 44 (isL 125 σ.rest))))
      else match (pair (σ.at (isL 125 (isL 44 (isL 125 σ.rest))))).1 with
        | none => (none, (pair (σ.at (isL 125 (isL 44 (isL 125 σ.rest))))).2)
        | some (m, t) =>
          if (get fs m).2 then fieldsN n fs ((pair (σ.at (isL 125 (isL 44 (isL 125 σ.rest))))).2.note 12 m)
          else fieldsN n (fs ++ [⟨m, t⟩]) (pair (σ.at (isL 125 (isL 44 (isL 125 σ.rest))))).2
    else (none, σ.at (isL 44 (isL 125 σ.rest)))
def strW : List UInt8 := [115, 116, 114, 105, 110, 103]
/-- behind '{' of a string -/
def entryS (σ2 : RS) : Option (Option Ent) × RS :=
  match (pair σ2).1 with
  | none => (none, (pair σ2).2)
  | some (m, t) =>
    if isB 125 (pair σ2).2.rest then (some none, { (pair σ2).2.at (isL 125 (pair σ2).2.rest) with names := fun x => if x = m then some t else (pair σ2).2.names x })
    else (none, (pair σ2).2.at (isL 125 (pair σ2).2.rest))
/-- behind '{' of an entry -/
def entryK (u : List UInt8) (σ2 : RS) : Option (Option Ent) × RS :=
  match (mark σ2.rest).1 with
  | none => (none, σ2.at (mark σ2.rest).2)
  | some y =>
    match (fieldsN (σ2.rest.length + 1) [] (σ2.at (mark σ2.rest).2)).1 with
    | none => (none, (fieldsN (σ2.rest.length + 1) [] (σ2.at (mark σ2.rest).2)).2)
    | some fs => (some (some ⟨u, y, fs⟩), (fieldsN (σ2.rest.length + 1) [] (σ2.at (mark σ2.rest).2)).2)
/-- behind a kind -/
def entryB (u : List UInt8) (σ1 : RS) : Option (Option Ent) × RS :=
  if isB 123 σ1.rest then
    if u = strW then entryS (σ1.at (isL 123 σ1.rest)) else entryK u (σ1.at (isL 123 σ1.rest))
  else (none, σ1.at (isL 123 σ1.rest))
/-- what stands behind an @: an entry, or none -/
def entry (σ : RS) : Option (Option Ent) × RS :=
  match (mark σ.rest).1 with
  | none => (none, { σ with rest := (mark σ.rest).2, kind := [] })
  | some k => entryB (small k) { σ with rest := (mark σ.rest).2, kind := small k }
def has (l : List Ent) (key : List UInt8) : Bool := l.any (fun x => x.key == key)
def parseN : Nat → List Ent → RS → List Ent × RS
  | 0, out, σ => (out, σ)
  | n + 1, out, σ =>
    match σ.rest.dropWhile (fun c => !(c == 64)) with
    | [] => (out, σ)
    | _ :: l =>
      match (entry (σ.at l)).1 with
      | none => parseN n out ((entry (σ.at l)).2.note (err (entry (σ.at l)).2.rest) (entry (σ.at l)).2.kind)
      | some none => parseN n out (entry (σ.at l)).2
      | some (some x) => if has out x.key then parseN n out ((entry (σ.at l)).2.note 12 x.key) else parseN n (out ++ [x]) (entry (σ.at l)).2
def parse (s : List UInt8) : List Ent × List (Int × List UInt8) :=
  let r := parseN (s.length + 1) [] ⟨s, [], fun _ => none, []⟩
  (r.1, r.2.notes)

/-! ### nothing that is read comes back -/
theorem bl_len (l : List UInt8) : (bl l).length ≤ l.length := by unfold bl; exact List.Sublist.length_le (List.dropWhile_sublist _)
theorem isL_len (c : UInt8) (l : List UInt8) : (isL c l).length ≤ l.length := by
  have := bl_len l
  unfold isL
  cases h : bl l with
  | nil => simp
  | cons x r => rw [h] at this; simp at this; dsimp only; split <;> simp <;> omega
theorem isL_lt (c : UInt8) (l : List UInt8) (hb : isB c l = true) : (isL c l).length < l.length := by
  have := bl_len l
  unfold isB at hb; unfold isL
  cases h : bl l with
  | nil => rw [h] at hb; simp at hb
  | cons x r => rw [h] at this hb; simp at this hb; simp [hb]; omega
theorem dropWhile_len {α : Type} (p : α → Bool) (l : List α) : (l.dropWhile p).length ≤ l.length := List.Sublist.length_le (List.dropWhile_sublist _)
theorem mark_len (l : List UInt8) : (mark l).2.length ≤ l.length := by
  unfold mark
  exact Nat.le_trans (dropWhile_len _ _) (bl_len l)
theorem mark_lt (l m : List UInt8) (h : (mark l).1 = some m) : m ≠ [] ∧ (mark l).2.length < l.length := by
  unfold mark at h ⊢
  dsimp only at h ⊢
  split at h
  · cases h
  · rename_i hne
    cases h
    have h0 : (bl l).takeWhile sign ≠ [] := by intro e; rw [e] at hne; simp at hne
    refine ⟨h0, ?_⟩
    have h1 := congrArg List.length (List.takeWhile_append_dropWhile (p := sign) (l := bl l))
    rw [List.length_append] at h1
    have h2 := List.length_pos_iff.2 h0
    have h3 := bl_len l
    omega
theorem quoted_len (l : List UInt8) : (quoted l).2.length ≤ l.length := by
  have := dropWhile_len (fun c : UInt8 => !(c == 34)) l
  unfold quoted
  cases h : l.dropWhile (fun c => !(c == 34)) with
  | nil => simp
  | cons x r => rw [h] at this; simp at this; simp; omega
theorem brace_len : ∀ (l : List UInt8) (d : Nat) (acc : List UInt8), (brace d acc l).2.length ≤ l.length
  | [], _, _ => by simp [brace]
  | x :: r, d, acc => by
    unfold brace
    dsimp only
    generalize (if x == 123 then d + 1 else if x == 125 then d - 1 else d) = d'
    cases d' with
    | zero => simp
    | succ k =>
      have := brace_len r (k + 1) (acc ++ [x])
      simp
      omega
theorem bl_bl (l : List UInt8) : bl (bl l) = bl l := by
  unfold bl
  induction l with
  | nil => rfl
  | cons x l ih =>
    rw [List.dropWhile_cons]
    cases h : blank x
    · simp [h]
    · simpa using ih
theorem isB_bl (c : UInt8) (l : List UInt8) : isB c (bl l) = isB c l := by unfold isB; rw [bl_bl]
theorem isL_bl (c : UInt8) (l : List UInt8) : isL c (bl l) = isL c l := by unfold isL; rw [bl_bl]
theorem mark_bl (l : List UInt8) : mark (bl l) = mark l := by unfold mark; rw [bl_bl]
theorem isL_no (c : UInt8) (l : List UInt8) (h : isB c l = false) : isL c l = bl l := by
  unfold isL
  unfold isB at h
  cases hb : bl l with
  | nil => rfl
  | cons x r => rw [hb] at h; dsimp only at h ⊢; rw [h]; rfl
end Go.Proofs.YtibinlpbcoihoaaGreatDoor.Ent
