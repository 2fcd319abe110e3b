/- The walks of package entry: small letters. -/
import Derived.Test.YtddgdfcgjjdlcaaDoorEntW
import Derived.Test.YtddgdfcgjjdlcaaDoorBytes
namespace Go.Proofs.YtddgdfcgjjdlcaaDoor
open Go.RowKit

def smallTo (k : Nat) (l : List UInt8) : List UInt8 := Ent.small (l.take k) ++ l.drop k
theorem smallTo_length (k : Nat) (l : List UInt8) : (smallTo k l).length = l.length := by
  unfold smallTo Ent.small
  simp; omega
theorem smallTo_get (k : Nat) (l : List UInt8) (x : UInt8) (h : l[k]? = some x) : (smallTo k l)[k]? = some x := by
  obtain ⟨hk, e⟩ := List.getElem?_eq_some_iff.1 h
  unfold smallTo Ent.small
  rw [List.getElem?_append_right (by simp; omega)]
  simp [Nat.min_eq_left (Nat.le_of_lt hk), h]
theorem smallTo_step (k : Nat) (l : List UInt8) (x : UInt8) (h : l[k]? = some x) : smallTo (k + 1) l = (smallTo k l).set k (Ent.low x) := by
  obtain ⟨hk, e⟩ := List.getElem?_eq_some_iff.1 h
  unfold smallTo Ent.small
  rw [List.take_add_one, h, List.set_append_right _ _ (by simp; omega)]
  rw [List.drop_eq_getElem_cons hk, e]
  simp [Nat.min_eq_left (Nat.le_of_lt hk)]

set_option maxRecDepth 100000 in
set_option maxHeartbeats 400000 in
theorem entry_small (l : List UInt8) (w : World) (hl : l.length ≤ maxLen) :
    Calls Tryd.prog 21 #[.string ⟨l.toArray⟩] w fun e w' => e = .returned (.string ⟨(Ent.small l).toArray⟩) ∧ Below w.heap.size w w' := by
  have hmax : l.length ≤ 9223372036854775807 := by unfold maxLen at hl; omega
  obtain ⟨cap, hcap⟩ : ∃ cap, cap = grownCap w l.length 0 5 := ⟨_, rfl⟩
  have hcl : l.length ≤ cap := by rw [hcap]; exact grownCap_ge w l.length 0 5
  obtain ⟨W, hW⟩ : ∃ W, W = w.drew.alloc (.cells (bytesRow ⟨l.toArray⟩ cap) 5 ((bytesRow ⟨l.toArray⟩ cap).size, (bytesRow ⟨l.toArray⟩ cap).size + 1)) := ⟨_, rfl⟩
  have hcv : (convert 9 68 (.string ⟨l.toArray⟩)).run Tryd.prog w = .ok (.slice (some ⟨w.heap.size, 0, none⟩) l.length cap) W := by
    rw [hW, run_bytes_of_string (P := Tryd.prog) w 9 68 5 ⟨l.toArray⟩ Tryd.underlying9 Tryd.underlying68 Tryd.underlying5, size_mk, ← hcap]
  have hrow : ByteRow W w.heap.size l := by rw [hW]; exact byteRow_new w l cap 5 hcl
  have hbW : Below w.heap.size w W := by rw [hW]; exact ((Below.refl w.heap.size w).drew).alloc (Nat.le_refl _) _
  clear hW hcap hl
  have Hrow := Lib.hid hrow; have HbW := Lib.hid hbW; clear hrow hbW
  go_enter Tryd.func21, Tryd.ntmps21
  go_wp2_with fail
  clear hcv
  go_loopw [10] (fun i wr => ∃ k : Nat, k ≤ l.length ∧ i = .int .i64 k ∧ ByteRow wr w.heap.size (smallTo k l) ∧ Below w.heap.size w wr) (fun i _ => l.length - (intOf i).toNat)
  case atStart => exact ⟨0, Nat.zero_le _, rfl, by simpa [smallTo, Ent.small] using Hrow.out, HbW.out⟩
  case round =>
    clear Hrow HbW
    obtain ⟨k, hk, rfl, hrow, hb⟩ := hrel
    by_cases hlt : k < l.length
    · obtain ⟨x, hx⟩ : ∃ x, l[k]? = some x := ⟨_, List.getElem?_eq_getElem hlt⟩
      have e0 := hrow.cell k x (smallTo_get k l x hx)
      have f0 := hrow.free k (by rw [smallTo_length]; exact hlt)
      have hlt' : (k : Int) < (l.length : Int) := by omega
      have Hrow := Lib.hid hrow; have Hb := Lib.hid hb; have Hx := Lib.hid hx
      clear hrow hb hx
      have hx256 := x.toNat_lt
      by_cases hup : 65 ≤ x.toNat ∧ x.toNat ≤ 90
      · have g1 : (65 : Int) ≤ (x.toNat : Int) := by omega
        have g2 : (x.toNat : Int) ≤ 90 := by omega
        obtain ⟨c, hc⟩ : ∃ c : UInt8, c = x + 32 := ⟨_, rfl⟩
        have hlow : Ent.low x = c := by unfold Ent.low; rw [if_pos hup, hc]
        have hw1 : IntKind.u8.wrap ((x.toNat : Int) + 97) = (x.toNat : Int) + 97 := IntWalk.u8_in _ (by omega)
        have hw2 : IntKind.u8.wrap ((x.toNat : Int) + 97 - 65) = (c.toNat : Int) := by
          rw [IntWalk.u8_in _ (by omega), hc, UInt8.toNat_add]
          simp
          omega
        clear hc
        have Hlow := Lib.hid hlow
        clear hup hlow
        go_wp2_with fail
        go_roundw
        case rel =>
          refine ⟨k + 1, by omega, by go_num, ?_, ?_⟩
          · rw [smallTo_step k l x Hx.out, Hlow.out]
            exact Hrow.out.set k (by rw [smallTo_length]; exact hlt) c
          · exact Hb.out.setCell (Nat.le_refl _) _
        case measure => simp [intOf]; omega
      · have hlow : Ent.low x = x := by unfold Ent.low; rw [if_neg hup]
        have Hlow := Lib.hid hlow
        clear hlow
        have hsame : smallTo (k + 1) l = smallTo k l := by
          rw [smallTo_step k l x Hx.out, Hlow.out]
          have h := smallTo_get k l x Hx.out
          obtain ⟨h1, h2⟩ := List.getElem?_eq_some_iff.1 h
          rw [← h2]
          exact List.set_getElem_self h1
        have Hsame := Lib.hid hsame; clear hsame
        by_cases h65 : 65 ≤ x.toNat
        · have g1 : (65 : Int) ≤ (x.toNat : Int) := by omega
          have g2 : ¬ (x.toNat : Int) ≤ 90 := by omega
          clear hup
          go_wp2_with fail
          go_roundw
          case rel => exact ⟨k + 1, by omega, by go_num, by rw [Hsame.out]; exact Hrow.out, Hb.out⟩
          case measure => simp [intOf]; omega
        · have g1 : ¬ (65 : Int) ≤ (x.toNat : Int) := by omega
          clear hup
          go_wp2_with fail
          go_roundw
          case rel => exact ⟨k + 1, by omega, by go_num, by rw [Hsame.out]; exact Hrow.out, Hb.out⟩
          case measure => simp [intOf]; omega
    · have hkl : k = l.length := by omega
      have hst : smallTo k l = Ent.small l := by unfold smallTo; rw [hkl]; simp
      rw [hst] at hrow
      have hlen : (Ent.small l).length = l.length := by unfold Ent.small; simp
      have hback := run_convert_bytes_back (P := Tryd.prog) wr 68 9 5 ⟨w.heap.size, 0, none⟩ cap (Ent.small l) Tryd.underlying68 Tryd.underlying5 Tryd.underlying9 (fun j hj => by
        rw [Addr.add_lit, Nat.zero_add]
        exact hrow.cell j _ (List.getElem?_eq_getElem hj))
      rw [hlen] at hback
      have Hb := Lib.hid hb; clear hb hrow hst
      go_wp2_with fail
      go_ret
      exact ⟨rfl, Hb.out⟩
end Go.Proofs.YtddgdfcgjjdlcaaDoor
