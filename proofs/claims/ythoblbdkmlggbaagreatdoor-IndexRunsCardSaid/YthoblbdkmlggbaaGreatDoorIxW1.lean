/- The walks of package index, first part: small letters, letters, the order of places. -/
import Derived.Test.YthoblbdkmlggbaaGreatDoorChecked
import Derived.Test.YthoblbdkmlggbaaGreatDoorShelf
import Derived.Test.YthoblbdkmlggbaaGreatDoorBase
import Derived.Test.YthoblbdkmlggbaaGreatDoorBytes
import Derived.Test.YthoblbdkmlggbaaGreatDoorIxQ
import Derived.Test.YthoblbdkmlggbaaGreatDoorKC
import Derived.OwnWalk
set_option linter.unusedSimpArgs false
set_option linter.unusedVariables false
namespace Go.Proofs.YthoblbdkmlggbaaGreatDoor
open Go.RowKit
/-- what is drawn never goes back -/
def Dr (w w' : World) : Prop := w.drawn ≤ w'.drawn
theorem Dr.trans {a b c : World} (h : Dr a b) (k : Dr b c) : Dr a c := Nat.le_trans h k
theorem Dr.refl (a : World) : Dr a a := Nat.le_refl _
def smallTo (k : Nat) (l : List UInt8) : List UInt8 := Ent.small (l.take k) ++ l.drop k
theorem smallTo_length (k : Nat) (l : List UInt8) : (smallTo k l).length = l.length := by
  unfold smallTo Ent.small
  simp; omega
theorem smallTo_get (k : Nat) (l : List UInt8) (x : UInt8) (h : l[k]? = some x) : (smallTo k l)[k]? = some x := by
  obtain ⟨hk, e⟩ := List.getElem?_eq_some_iff.1 h
  unfold smallTo Ent.small
  rw [List.getElem?_append_right (by simp; omega)]
  simp [Nat.min_eq_left (Nat.le_of_lt hk), h]
theorem smallTo_step (k : Nat) (l : List UInt8) (x : UInt8) (h : l[k]? = some x) : smallTo (k + 1) l = (smallTo k l).set k (Ent.low x) := by
  obtain ⟨hk, e⟩ := List.getElem?_eq_some_iff.1 h
  unfold smallTo Ent.small
  rw [List.take_add_one, h, List.set_append_right _ _ (by simp; omega)]
  rw [List.drop_eq_getElem_cons hk, e]
  simp [Nat.min_eq_left (Nat.le_of_lt hk)]

set_option maxRecDepth 100000 in
set_option maxHeartbeats 400000 in
theorem ix_small (l : List UInt8) (w : World) (hl : l.length ≤ maxLen) :
    Calls Tryz.prog 124 #[.string ⟨l.toArray⟩] w fun e w' => e = .returned (.string ⟨(Ent.small l).toArray⟩) ∧ Below w.heap.size w w' ∧ Dr w w' := by
  have hmax : l.length ≤ 9223372036854775807 := by unfold maxLen at hl; omega
  obtain ⟨cap, hcap⟩ : ∃ cap, cap = grownCap w l.length 0 5 := ⟨_, rfl⟩
  have hcl : l.length ≤ cap := by rw [hcap]; exact grownCap_ge w l.length 0 5
  obtain ⟨W, hW⟩ : ∃ W, W = w.drew.alloc (.cells (bytesRow ⟨l.toArray⟩ cap) 5 ((bytesRow ⟨l.toArray⟩ cap).size, (bytesRow ⟨l.toArray⟩ cap).size + 1)) := ⟨_, rfl⟩
  have hcv : (convert 9 40 (.string ⟨l.toArray⟩)).run Tryz.prog w = .ok (.slice (some ⟨w.heap.size, 0, none⟩) l.length cap) W := by
    rw [hW, run_bytes_of_string (P := Tryz.prog) w 9 40 5 ⟨l.toArray⟩ Tryz.underlying9 Tryz.underlying40 Tryz.underlying5, size_mk, ← hcap]
  have hrow : ByteRow W w.heap.size l := by rw [hW]; exact byteRow_new w l cap 5 hcl
  have hbW : Below w.heap.size w W := by rw [hW]; exact ((Below.refl w.heap.size w).drew).alloc (Nat.le_refl _) _
  have hdW : Dr w W := by rw [hW]; exact Nat.le_succ _
  clear hW hcap hl
  have Hrow := Lib.hid hrow; have HbW := Lib.hid hbW; have HdW := Lib.hid hdW; clear hrow hbW hdW
  go_enter Tryz.func124, Tryz.ntmps124
  go_wp2_with fail
  clear hcv
  go_loopw [10] (fun i wr => ∃ k : Nat, k ≤ l.length ∧ i = .int .i64 k ∧ ByteRow wr w.heap.size (smallTo k l) ∧ Below w.heap.size w wr ∧ Dr w wr) (fun i _ => l.length - (intOf i).toNat)
  case atStart => exact ⟨0, Nat.zero_le _, rfl, by simpa [smallTo, Ent.small] using Hrow.out, HbW.out, HdW.out⟩
  case round =>
    clear Hrow HbW HdW
    obtain ⟨k, hk, rfl, hrow, hb, hd⟩ := hrel
    have Hd := Lib.hid hd; clear hd
    by_cases hlt : k < l.length
    · obtain ⟨x, hx⟩ : ∃ x, l[k]? = some x := ⟨_, List.getElem?_eq_getElem hlt⟩
      have e0 := hrow.cell k x (smallTo_get k l x hx)
      have f0 := hrow.free k (by rw [smallTo_length]; exact hlt)
      have hlt' : (k : Int) < (l.length : Int) := by omega
      have Hrow := Lib.hid hrow; have Hb := Lib.hid hb; have Hx := Lib.hid hx
      clear hrow hb hx
      have hx256 := x.toNat_lt
      by_cases hup : 65 ≤ x.toNat ∧ x.toNat ≤ 90
      · have g1 : (65 : Int) ≤ (x.toNat : Int) := by omega
        have g2 : (x.toNat : Int) ≤ 90 := by omega
        obtain ⟨c, hc⟩ : ∃ c : UInt8, c = x + 32 := ⟨_, rfl⟩
        have hlow : Ent.low x = c := by unfold Ent.low; rw [if_pos hup, hc]
        have hw1 : IntKind.u8.wrap ((x.toNat : Int) - 65) = (x.toNat : Int) - 65 := IntWalk.u8_in _ (by omega)
        have hw2 : IntKind.u8.wrap ((x.toNat : Int) - 65 + 97) = (c.toNat : Int) := by
          rw [IntWalk.u8_in _ (by omega), hc, UInt8.toNat_add]
          simp
          omega
        clear hc
        have Hlow := Lib.hid hlow
        clear hup hlow
        go_wp2_with fail
        go_roundw
        case rel =>
          refine ⟨k + 1, by omega, by go_num, ?_, ?_, Hd.out⟩
          · rw [smallTo_step k l x Hx.out, Hlow.out]
            exact Hrow.out.set k (by rw [smallTo_length]; exact hlt) c
          · exact Hb.out.setCell (Nat.le_refl _) _
        case measure => simp [intOf]; omega
      · have hlow : Ent.low x = x := by unfold Ent.low; rw [if_neg hup]
        have Hlow := Lib.hid hlow
        clear hlow
        have hsame : smallTo (k + 1) l = smallTo k l := by
          rw [smallTo_step k l x Hx.out, Hlow.out]
          have h := smallTo_get k l x Hx.out
          obtain ⟨h1, h2⟩ := List.getElem?_eq_some_iff.1 h
          rw [← h2]
          exact List.set_getElem_self h1
        have Hsame := Lib.hid hsame; clear hsame
        by_cases h65 : 65 ≤ x.toNat
        · have g1 : (65 : Int) ≤ (x.toNat : Int) := by omega
          have g2 : ¬ (x.toNat : Int) ≤ 90 := by omega
          clear hup
          go_wp2_with fail
          go_roundw
          case rel => exact ⟨k + 1, by omega, by go_num, by rw [Hsame.out]; exact Hrow.out, Hb.out, Hd.out⟩
          case measure => simp [intOf]; omega
        · have g1 : ¬ (65 : Int) ≤ (x.toNat : Int) := by omega
          clear hup
          go_wp2_with fail
          go_roundw
          case rel => exact ⟨k + 1, by omega, by go_num, by rw [Hsame.out]; exact Hrow.out, Hb.out, Hd.out⟩
          case measure => simp [intOf]; omega
    · have hkl : k = l.length := by omega
      have hst : smallTo k l = Ent.small l := by unfold smallTo; rw [hkl]; simp
      rw [hst] at hrow
      have hlen : (Ent.small l).length = l.length := by unfold Ent.small; simp
      have hback := run_convert_bytes_back (P := Tryz.prog) wr 40 9 5 ⟨w.heap.size, 0, none⟩ cap (Ent.small l) Tryz.underlying40 Tryz.underlying5 Tryz.underlying9 (fun j hj => by
        rw [Addr.add_lit, Nat.zero_add]
        exact hrow.cell j _ (List.getElem?_eq_getElem hj))
      rw [hlen] at hback
      have Hb := Lib.hid hb; clear hb hrow hst
      go_wp2_with fail
      go_ret
      exact ⟨rfl, Hb.out, Hd.out⟩
def RInt (n : Int) (vs : List Value) : Prop := vs = [.int .i64 n]
theorem RInt.size (n : Int) (vs : List Value) (h : RInt n vs) : vs.length = 1 := by rw [h]; rfl
theorem ints_rep : ∀ (c : List Int), RepRow RInt c (c.map (Value.int .i64))
  | [] => rfl
  | x :: c => ⟨[.int .i64 x], _, rfl, rfl, ints_rep c⟩
theorem Ix.firstNZ_zeros : ∀ (l : List Int), (∀ a ∈ l, a = 0) → Ix.firstNZ l = 0
  | [], _ => rfl
  | a :: r, h => by unfold Ix.firstNZ; rw [if_pos (h a (by simp))]; exact Ix.firstNZ_zeros r fun b hb => h b (List.mem_cons_of_mem _ hb)
theorem Ix.firstNZ_hit : ∀ (l : List Int) (k : Nat) (a : Int), l[k]? = some a → (∀ b ∈ l.take k, b = 0) → a ≠ 0 → Ix.firstNZ l = a
  | [], k, a, h, _, _ => by simp at h
  | b :: r, 0, a, h, _, hn => by
    simp at h; subst h
    unfold Ix.firstNZ; rw [if_neg hn]
  | b :: r, k + 1, a, h, hz, hn => by
    unfold Ix.firstNZ
    rw [if_pos (hz b (by simp))]
    exact Ix.firstNZ_hit r k a (by simpa using h) (fun c hc => hz c (by rw [List.take_succ_cons]; exact List.mem_cons_of_mem _ hc)) hn
theorem std_compare (a b : List UInt8) (w : World) : Calls Tryz.prog 102 #[.string ⟨a.toArray⟩, .string ⟨b.toArray⟩] w fun e w' => e = .returned (.int .i64 (Ix.cmpB a b)) ∧ w' = w := Tryz.strings_Compare ⟨a.toArray⟩ ⟨b.toArray⟩ w
set_option maxRecDepth 100000 in
set_option maxHeartbeats 800000 in
theorem std_or (l : List Int) (v : Value) (S : Nat → Prop) (w : World) (hS : SliceIn S 1 RInt w v l) (hl : l.length ≤ 1000) :
    Calls Tryz.prog 79 #[v] w fun e w' => e = .returned (.int .i64 (Ix.firstNZ l)) ∧ w' = w := by
  obtain ⟨pa, cap, rfl, hle, hm, hat⟩ := hS
  have Hat := Lib.hid hat; have Hl := Lib.hid hl
  clear hat hm hle hl
  go_enter Tryz.func79, Tryz.ntmps79
  go_wp2_with fail
  go_loopw [8] (fun iv wr => ∃ k : Nat, k ≤ l.length ∧ iv = .int .i64 (k : Int) ∧ (∀ b ∈ l.take k, b = 0) ∧ wr = w) (fun iv _ => l.length - (intOf iv).toNat)
  case atStart => exact ⟨0, Nat.zero_le _, rfl, fun b hb => by simp at hb, rfl⟩
  case round =>
    obtain ⟨k, hk, rfl, hz, rfl⟩ := hrel
    have Hz := Lib.hid hz; clear hz
    by_cases hlt : k < l.length
    · obtain ⟨x, hx⟩ : ∃ x, l[k]? = some x := ⟨_, List.getElem?_eq_getElem hlt⟩
      obtain ⟨b, off, vs, rfl, _, hbw, hR, hc⟩ := Hat.out k x hx
      have hR : vs = _ := hR
      subst hR
      have e0 : wr.cell? ⟨b, off + k, none⟩ = some (.int .i64 x) := by
        have := hc 0 _ rfl
        rwa [Nat.mul_one, Nat.add_zero] at this
      have hlt' : (k : Int) < (l.length : Int) := by omega
      obtain ⟨k1, hk1⟩ : ∃ k1, k1 = k + 1 := ⟨_, rfl⟩
      have hwk : IntKind.i64.wrap ((k : Int) + 1) = (k1 : Int) := by rw [IntWalk.i64_in _ (by have := Hl.out; omega)]; omega
      have Hx := Lib.hid hx; have Hlt := Lib.hid hlt; have Hk1 := Lib.hid hk1
      clear hc hx hlt hk hk1
      by_cases h0 : x = 0
      · subst h0
        go_wp2_with fail
        go_roundw
        case rel => exact ⟨k1, by have := Hlt.out; have := Hk1.out; omega, rfl, by rw [Hk1.out, List.take_add_one, Hx.out]; intro b hb; rcases List.mem_append.1 hb with h | h; exact Hz.out b h; simpa using h, trivial⟩
        case measure => have := Hlt.out; have := Hk1.out; simp [intOf]; omega
      · have Hr := Lib.hid (Ix.firstNZ_hit l k x Hx.out Hz.out h0)
        go_wp2_with fail
        go_ret
        exact ⟨ret_int Hr.out.symm, rfl⟩
    · have hlt' : ¬ (k : Int) < (l.length : Int) := by omega
      have Hr := Lib.hid (Ix.firstNZ_zeros l (by have := Hz.out; rwa [List.take_of_length_le (by omega)] at this))
      clear hlt hk
      go_wp2_with fail
      go_ret
      exact ⟨ret_int Hr.out.symm, rfl⟩

theorem std_or2 (x y : Int) (w : World) (g : Nat) (hg : g = w.heap.size) : Calls Tryz.prog 79 #[.slice (some ⟨g, 0, none⟩) 2 2] (w.alloc (.cells #[.int .i64 x, .int .i64 y] 3)) fun e w' => e = .returned (.int .i64 (Ix.firstNZ [x, y])) ∧ w' = w.alloc (.cells #[.int .i64 x, .int .i64 y] 3) := by
  subst hg
  have hO : OwnL w.heap.size 3 1 RInt (w.alloc (.cells #[.int .i64 x, .int .i64 y] 3)) (.slice (some ⟨w.heap.size, 0, none⟩) 2 2) [x, y] :=
    ⟨[.int .i64 x, .int .i64 y], own_built w w.heap.size 3 1 2 [.int .i64 x, .int .i64 y] (Nat.le_refl _) rfl (by unfold maxLen; omega), ints_rep _⟩
  exact std_or [x, y] _ _ _ (hO.slice RInt.size (fun _ => True) (fun _ _ => trivial)) (by simp)
theorem std_or3 (x y z : Int) (w : World) (g : Nat) (hg : g = w.heap.size) : Calls Tryz.prog 79 #[.slice (some ⟨g, 0, none⟩) 3 3] (w.alloc (.cells #[.int .i64 x, .int .i64 y, .int .i64 z] 3)) fun e w' => e = .returned (.int .i64 (Ix.firstNZ [x, y, z])) ∧ w' = w.alloc (.cells #[.int .i64 x, .int .i64 y, .int .i64 z] 3) := by
  subst hg
  have hO : OwnL w.heap.size 3 1 RInt (w.alloc (.cells #[.int .i64 x, .int .i64 y, .int .i64 z] 3)) (.slice (some ⟨w.heap.size, 0, none⟩) 3 3) [x, y, z] :=
    ⟨[.int .i64 x, .int .i64 y, .int .i64 z], own_built w w.heap.size 3 1 3 [.int .i64 x, .int .i64 y, .int .i64 z] (Nat.le_refl _) rfl (by unfold maxLen; omega), ints_rep _⟩
  exact std_or [x, y, z] _ _ _ (hO.slice RInt.size (fun _ => True) (fun _ _ => trivial)) (by simp)
theorem small_len (l : List UInt8) : (Ent.small l).length = l.length := by unfold Ent.small; simp
set_option maxRecDepth 100000 in
set_option maxHeartbeats 800000 in
theorem ix_letters (a b : List UInt8) (w : World) (ha : a.length ≤ maxLen) (hb : b.length ≤ maxLen) :
    Calls Tryz.prog 80 #[.string ⟨a.toArray⟩, .string ⟨b.toArray⟩] w fun e w' => e = .returned (.int .i64 (Ix.cl a b)) ∧ Below w.heap.size w w' ∧ Dr w w' := by
  have hr : Ix.firstNZ [Ix.cmpB (Ent.small a) (Ent.small b), Ix.cmpB a b] = Ix.cl a b := by
    unfold Ix.cl
    rw [Ix.cmpL_zip]
    rfl
  have Hr := Lib.hid hr; have Ha := Lib.hid ha; have Hb := Lib.hid hb
  clear hr ha hb
  go_enter Tryz.func80, Tryz.ntmps80
  have tk : True := trivial
  have tk2 : True := trivial
  go_wp2_with (first
    | (go_at_call 124; have _t := tk; clear _t; refine (ix_small a _ Ha.out).mono ?_; clear tk; rintro e w1 ⟨rfl, h1, d1⟩; have H1 := Lib.hid h1; have D1 := Lib.hid d1; clear h1 d1)
    | (go_at_call 124; refine (ix_small b _ Hb.out).mono ?_; rintro e w2 ⟨rfl, h2, d2⟩; have H2 := Lib.hid (bseq H1.out h2); have D2 := Lib.hid (D1.out.trans d2); clear h2 d2)
    | (go_at_call 102; have _t := tk2; clear _t; refine (std_compare (Ent.small a) (Ent.small b) _).mono ?_; clear tk2; rintro e w9 ⟨rfl, hw9⟩; have hw9 := hw9.symm; subst hw9)
    | (go_at_call 102; refine (std_compare a b _).mono ?_; rintro e w9 ⟨rfl, hw9⟩; have hw9 := hw9.symm; subst hw9)
    | (go_at_call 79; refine (std_or2 _ _ _ _ rfl).mono ?_; rw [Hr.out]; rintro e w10 ⟨rfl, hw9⟩; have hw9 := hw9.symm; subst hw9))
  go_ret
  exact ⟨rfl, H2.out.trans ((below_new _ _).mono H2.out.size), D2.out⟩
end Go.Proofs.YthoblbdkmlggbaaGreatDoor
