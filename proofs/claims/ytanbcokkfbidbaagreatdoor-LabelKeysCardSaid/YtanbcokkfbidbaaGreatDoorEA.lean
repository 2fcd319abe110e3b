/- The walks of package entry, first part: signs, small letters, marks. A row of bytes of the call's own: '[]byte(s)', written, and back. No program in sight. The walks of package entry: small letters. -/
import Derived.Test.YtanbcokkfbidbaaGreatDoorChecked
import Derived.Test.YtanbcokkfbidbaaGreatDoorShelf
import Derived.Test.YtanbcokkfbidbaaGreatDoorEntP
import Derived.Test.YtanbcokkfbidbaaGreatDoorRep
import Derived.Test.YtanbcokkfbidbaaGreatDoorSup
import Derived.Laws.IdiomStrings
set_option linter.unusedSimpArgs false
set_option linter.unusedVariables false
namespace Go.Proofs.YtanbcokkfbidbaaGreatDoor
section
open Go.RowKit

/-- what holds of all 256 bytes, looked through -/
theorem byte_all (p : UInt8 → Bool) (h : (List.range 256).all (fun n => p (UInt8.ofNat n)) = true) (c : UInt8) : p c = true := by
  have := List.all_eq_true.1 h c.toNat (List.mem_range.2 c.toNat_lt)
  simpa using this
theorem index_sign (c : UInt8) (h : ¬ (97 ≤ c.toNat ∧ c.toNat ≤ 122)) (h2 : ¬ (65 ≤ c.toNat ∧ c.toNat ≤ 90)) (h3 : ¬ (48 ≤ c.toNat ∧ c.toNat ≤ 57)) : decide (0 ≤ Lib.indexByte [45, 46, 95, 58] c) = Ent.sign c := by
  have := byte_all (fun c => (decide (97 ≤ c.toNat ∧ c.toNat ≤ 122)) || (decide (65 ≤ c.toNat ∧ c.toNat ≤ 90)) || decide (48 ≤ c.toNat ∧ c.toNat ≤ 57) || (decide (0 ≤ Lib.indexByte [45, 46, 95, 58] c) == Ent.sign c)) (by decide +kernel) c
  simpa [h, h2, h3] using this
theorem toU8 (c : UInt8) : ((c.toNat : Int)).toNat.toUInt8 = c := by simp

set_option maxHeartbeats 800000 in
theorem entry_sign (c : UInt8) (w : World) :
    Calls Tryz.prog 88 #[.int .u8 (c.toNat : Int)] w fun e w' => e = .returned (.bool (Ent.sign c)) ∧ w = w' := by
  have hc := c.toNat_lt
  have hlow := toU8 c
  have hi := index_sign c
  obtain ⟨n, hn⟩ : ∃ n, c.toNat = n := ⟨_, rfl⟩
  have hs : (97 ≤ n ∧ n ≤ 122) ∨ (65 ≤ n ∧ n ≤ 90) ∨ (48 ≤ n ∧ n ≤ 57) → Ent.sign c = true := by
    intro h
    unfold Ent.sign
    rcases h with h | h | h <;> simp [hn, h.1, h.2]
  rw [hn] at hi hlow hc ⊢
  have Hi := Lib.hid hi; have Hs := Lib.hid hs; have Hlow := Lib.hid hlow
  clear hi hs hlow hn
  have hz : (n < 48) ∨ (48 ≤ n ∧ n ≤ 57) ∨ (58 ≤ n ∧ n ≤ 64) ∨ (65 ≤ n ∧ n ≤ 90) ∨ (91 ≤ n ∧ n ≤ 96) ∨ (97 ≤ n ∧ n ≤ 122) ∨ (123 ≤ n) := by omega
  rcases hz with hz | hz | hz | hz | hz | hz | hz
  all_goals
    go_enter Tryz.func88, Tryz.ntmps88
    go_wp2_with (go_at_call 40; refine (Tryz.strings_IndexByte _ _ _).mono ?_; rintro e w' ⟨rfl, rfl⟩; rw [Hlow.out])
    go_ret
    first
      | exact ⟨ret_bool (Hs.out (by omega)).symm, rfl⟩
      | (refine ⟨ret_bool ?_, rfl⟩
         rw [← Hi.out (by omega) (by omega) (by omega)]
         try rw [show decide ((n : Int) ≤ 122) = false by simp; omega]
         try rw [show decide ((n : Int) ≤ 90) = false by simp; omega]
         try rw [show decide ((n : Int) ≤ 57) = false by simp; omega]
         try simp only [Bool.false_or])

end
section
open Go.RowKit

/-- a row of bytes that may be written -/
structure ByteRow (w : World) (g : Nat) (l : List UInt8) : Prop where
  lt : g < w.heap.size
  cell : ∀ (j : Nat) (x : UInt8), l[j]? = some x → w.cell? ⟨g, j, none⟩ = some (.int .u8 (x.toNat : Int))
  free : ∀ j : Nat, j < l.length → w.frozen? ⟨g, j, none⟩ = false
theorem ByteRow.set {w : World} {g : Nat} {l : List UInt8} (h : ByteRow w g l) (k : Nat) (hk : k < l.length) (c : UInt8) : ByteRow (w.setCell ⟨g, k, none⟩ (.int .u8 (c.toNat : Int))) g (l.set k c) := by
  refine ⟨by simpa using h.lt, fun j x hj => ?_, fun j hj => by simpa using h.free j (by simpa using hj)⟩
  by_cases hjk : j = k
  · subst hjk
    rw [List.getElem?_set_self hk] at hj
    cases hj
    exact World.cell?_setCell_same _ _ _ (h.cell j _ (List.getElem?_eq_getElem hk))
  · rw [List.getElem?_set_ne (fun e => hjk e.symm)] at hj
    rw [World.cell?_setCell_other _ _ _ _ (fun e => hjk (by cases e; rfl))]
    exact h.cell j x hj
theorem ByteRow.drew {w : World} {g : Nat} {l : List UInt8} (h : ByteRow w g l) : ByteRow w.drew g l := ⟨h.lt, h.cell, h.free⟩
theorem ByteRow.below {w w' : World} {g : Nat} {l : List UInt8} (h : ByteRow w g l) (b : Below w.heap.size w w') : ByteRow w' g l :=
  ⟨Nat.lt_of_lt_of_le h.lt b.size, fun j x hj => (b.cell (p := ⟨g, j, none⟩) h.lt).trans (h.cell j x hj), fun j hj => (b.frozen (p := ⟨g, j, none⟩) h.lt).trans (h.free j hj)⟩
/-- what '[]byte(s)' makes -/
theorem byteRow_new (w : World) (l : List UInt8) (cap : Nat) (e : TypeId) (hc : l.length ≤ cap) :
    ByteRow (w.drew.alloc (.cells (bytesRow ⟨l.toArray⟩ cap) e ((bytesRow ⟨l.toArray⟩ cap).size, (bytesRow ⟨l.toArray⟩ cap).size + 1))) w.heap.size l := by
  have hg : (w.drew.alloc (.cells (bytesRow ⟨l.toArray⟩ cap) e ((bytesRow ⟨l.toArray⟩ cap).size, (bytesRow ⟨l.toArray⟩ cap).size + 1))).heap[w.heap.size]? = some (.cells (bytesRow ⟨l.toArray⟩ cap) e ((bytesRow ⟨l.toArray⟩ cap).size, (bytesRow ⟨l.toArray⟩ cap).size + 1)) := heap_alloc_new w.drew _
  refine ⟨by simp [World.alloc], fun j x hj => ?_, fun j hj => ?_⟩
  · rw [cell_of_row _ _ _ _ _ _ hg]
    obtain ⟨hj', e⟩ := List.getElem?_eq_some_iff.1 hj
    rw [bytesRow_at _ _ _ (by simpa using hj')]
    simp [e]
  · unfold World.frozen?
    rw [hg]
    have : (bytesRow ⟨l.toArray⟩ cap).size = cap := by simp [bytesRow, ByteArray.size]; omega
    simp [this]; omega
end
section
open Go.RowKit

def smallTo (k : Nat) (l : List UInt8) : List UInt8 := Ent.small (l.take k) ++ l.drop k
theorem smallTo_length (k : Nat) (l : List UInt8) : (smallTo k l).length = l.length := by
  unfold smallTo Ent.small
  simp; omega
theorem smallTo_get (k : Nat) (l : List UInt8) (x : UInt8) (h : l[k]? = some x) : (smallTo k l)[k]? = some x := by
  obtain ⟨hk, e⟩ := List.getElem?_eq_some_iff.1 h
  unfold smallTo Ent.small
  rw [List.getElem?_append_right (by simp; omega)]
  simp [Nat.min_eq_left (Nat.le_of_lt hk), h]
theorem smallTo_step (k : Nat) (l : List UInt8) (x : UInt8) (h : l[k]? = some x) : smallTo (k + 1) l = (smallTo k l).set k (Ent.low x) := by
  obtain ⟨hk, e⟩ := List.getElem?_eq_some_iff.1 h
  unfold smallTo Ent.small
  rw [List.take_add_one, h, List.set_append_right _ _ (by simp; omega)]
  rw [List.drop_eq_getElem_cons hk, e]
  simp [Nat.min_eq_left (Nat.le_of_lt hk)]

set_option maxRecDepth 100000 in
set_option maxHeartbeats 400000 in
theorem entry_small (l : List UInt8) (w : World) (hl : l.length ≤ maxLen) :
    Calls Tryz.prog 61 #[.string ⟨l.toArray⟩] w fun e w' => e = .returned (.string ⟨(Ent.small l).toArray⟩) ∧ Below w.heap.size w w' := by
  have hmax : l.length ≤ 9223372036854775807 := by unfold maxLen at hl; omega
  obtain ⟨cap, hcap⟩ : ∃ cap, cap = grownCap w l.length 0 5 := ⟨_, rfl⟩
  have hcl : l.length ≤ cap := by rw [hcap]; exact grownCap_ge w l.length 0 5
  obtain ⟨W, hW⟩ : ∃ W, W = w.drew.alloc (.cells (bytesRow ⟨l.toArray⟩ cap) 5 ((bytesRow ⟨l.toArray⟩ cap).size, (bytesRow ⟨l.toArray⟩ cap).size + 1)) := ⟨_, rfl⟩
  have hcv : (convert 9 76 (.string ⟨l.toArray⟩)).run Tryz.prog w = .ok (.slice (some ⟨w.heap.size, 0, none⟩) l.length cap) W := by
    rw [hW, run_bytes_of_string (P := Tryz.prog) w 9 76 5 ⟨l.toArray⟩ Tryz.underlying9 Tryz.underlying76 Tryz.underlying5, size_mk, ← hcap]
  have hrow : ByteRow W w.heap.size l := by rw [hW]; exact byteRow_new w l cap 5 hcl
  have hbW : Below w.heap.size w W := by rw [hW]; exact ((Below.refl w.heap.size w).drew).alloc (Nat.le_refl _) _
  clear hW hcap hl
  have Hrow := Lib.hid hrow; have HbW := Lib.hid hbW; clear hrow hbW
  go_enter Tryz.func61, Tryz.ntmps61
  go_wp2_with fail
  clear hcv
  go_loopw [10] (fun i wr => ∃ k : Nat, k ≤ l.length ∧ i = .int .i64 k ∧ ByteRow wr w.heap.size (smallTo k l) ∧ Below w.heap.size w wr) (fun i _ => l.length - (intOf i).toNat)
  case atStart => exact ⟨0, Nat.zero_le _, rfl, by simpa [smallTo, Ent.small] using Hrow.out, HbW.out⟩
  case round =>
    clear Hrow HbW
    obtain ⟨k, hk, rfl, hrow, hb⟩ := hrel
    by_cases hlt : k < l.length
    · obtain ⟨x, hx⟩ : ∃ x, l[k]? = some x := ⟨_, List.getElem?_eq_getElem hlt⟩
      have e0 := hrow.cell k x (smallTo_get k l x hx)
      have f0 := hrow.free k (by rw [smallTo_length]; exact hlt)
      have hlt' : (k : Int) < (l.length : Int) := by omega
      have Hrow := Lib.hid hrow; have Hb := Lib.hid hb; have Hx := Lib.hid hx
      clear hrow hb hx
      have hx256 := x.toNat_lt
      by_cases hup : 65 ≤ x.toNat ∧ x.toNat ≤ 90
      · have g1 : (65 : Int) ≤ (x.toNat : Int) := by omega
        have g2 : (x.toNat : Int) ≤ 90 := by omega
        obtain ⟨c, hc⟩ : ∃ c : UInt8, c = x + 32 := ⟨_, rfl⟩
        have hlow : Ent.low x = c := by unfold Ent.low; rw [if_pos hup, hc]
        have hw1 : IntKind.u8.wrap ((x.toNat : Int) + 97) = (x.toNat : Int) + 97 := IntWalk.u8_in _ (by omega)
        have hw2 : IntKind.u8.wrap ((x.toNat : Int) + 97 - 65) = (c.toNat : Int) := by
          rw [IntWalk.u8_in _ (by omega), hc, UInt8.toNat_add]
          simp
          omega
        clear hc
        have Hlow := Lib.hid hlow
        clear hup hlow
        go_wp2_with fail
        go_roundw
        case rel =>
          refine ⟨k + 1, by omega, by go_num, ?_, ?_⟩
          · rw [smallTo_step k l x Hx.out, Hlow.out]
            exact Hrow.out.set k (by rw [smallTo_length]; exact hlt) c
          · exact Hb.out.setCell (Nat.le_refl _) _
        case measure => simp [intOf]; omega
      · have hlow : Ent.low x = x := by unfold Ent.low; rw [if_neg hup]
        have Hlow := Lib.hid hlow
        clear hlow
        have hsame : smallTo (k + 1) l = smallTo k l := by
          rw [smallTo_step k l x Hx.out, Hlow.out]
          have h := smallTo_get k l x Hx.out
          obtain ⟨h1, h2⟩ := List.getElem?_eq_some_iff.1 h
          rw [← h2]
          exact List.set_getElem_self h1
        have Hsame := Lib.hid hsame; clear hsame
        by_cases h65 : 65 ≤ x.toNat
        · have g1 : (65 : Int) ≤ (x.toNat : Int) := by omega
          have g2 : ¬ (x.toNat : Int) ≤ 90 := by omega
          clear hup
          go_wp2_with fail
          go_roundw
          case rel => exact ⟨k + 1, by omega, by go_num, by rw [Hsame.out]; exact Hrow.out, Hb.out⟩
          case measure => simp [intOf]; omega
        · have g1 : ¬ (65 : Int) ≤ (x.toNat : Int) := by omega
          clear hup
          go_wp2_with fail
          go_roundw
          case rel => exact ⟨k + 1, by omega, by go_num, by rw [Hsame.out]; exact Hrow.out, Hb.out⟩
          case measure => simp [intOf]; omega
    · have hkl : k = l.length := by omega
      have hst : smallTo k l = Ent.small l := by unfold smallTo; rw [hkl]; simp
      rw [hst] at hrow
      have hlen : (Ent.small l).length = l.length := by unfold Ent.small; simp
      have hback := run_convert_bytes_back (P := Tryz.prog) wr 76 9 5 ⟨w.heap.size, 0, none⟩ cap (Ent.small l) Tryz.underlying76 Tryz.underlying5 Tryz.underlying9 (fun j hj => by
        rw [Addr.add_lit, Nat.zero_add]
        exact hrow.cell j _ (List.getElem?_eq_getElem hj))
      rw [hlen] at hback
      have Hb := Lib.hid hb; clear hb hrow hst
      go_wp2_with fail
      go_ret
      exact ⟨rfl, Hb.out⟩
end
end Go.Proofs.YtanbcokkfbidbaaGreatDoor
