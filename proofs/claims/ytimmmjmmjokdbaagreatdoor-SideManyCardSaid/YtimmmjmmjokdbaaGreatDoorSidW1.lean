/- The walks of package side (layer 10), first part: numbers' texts, records. -/
import Derived.Test.YtimmmjmmjokdbaaGreatDoorWireW
set_option linter.unusedSimpArgs false
set_option linter.unusedVariables false
namespace Go.Proofs.YtimmmjmmjokdbaaGreatDoor
open Go.RowKit

set_option maxHeartbeats 400000 in
theorem side_digits (n : Int) (w : World) (hL : Laid10 w) :
    Calls Tryz.prog 24 #[.int .i64 n] w fun e w' => e = .returned (.string ⟨(Sd.dig n).toArray⟩) ∧ Below w.heap.size w w' := by
  go_enter Tryz.func24, Tryz.ntmps24
  go_wp2_with (go_at_call 40; refine (count_text n 0 _ hL.cnt).mono ?_; rintro e w1 ⟨rfl, hb⟩; have Hb := Lib.hid hb; clear hb)
  go_ret
  exact ⟨rfl, Hb.out⟩
set_option maxHeartbeats 400000 in
theorem side_value (l : List UInt8) (w : World) (hL : Laid10 w) (hl : l.length ≤ 1000000) :
    Calls Tryz.prog 43 #[.string ⟨l.toArray⟩] w fun e w' => e = .returned (.int .i64 (Sd.val l)) ∧ Below w.heap.size w w' := by
  go_enter Tryz.func43, Tryz.ntmps43
  go_wp2_with (go_at_call 57; refine (count_value l 0 _ hL.cnt hl).mono ?_; rintro e w1 ⟨rfl, hb⟩; have Hb := Lib.hid hb; clear hb)
  go_ret
  exact ⟨rfl, Hb.out⟩

theorem put_size (t : List UInt8) (h : t.length ≤ 1000) : (Sd.put t).length ≤ 1008 := by have := Sd.put_le t (by omega); omega
set_option maxRecDepth 100000 in
set_option maxHeartbeats 1600000 in
theorem side_record (ps : List (List UInt8)) (v : Value) (S : Nat → Prop) (w : World) (hL : Laid10 w) (hS : SliceIn S 1 RStr w v ps) (hl : ps.length ≤ 10) (hp : ∀ t ∈ ps, t.length ≤ 1000) :
    Calls Tryz.prog 23 #[v] w fun e w' => e = .returned (.string ⟨(Sd.record ps).toArray⟩) ∧ Below w.heap.size w w' := by
  obtain ⟨p, cap, rfl, hle, hm, hat⟩ := hS
  have Hat := Lib.hid hat; have HL := Lib.hid hL; have Hp := Lib.hid hp
  have hrec : Sd.record ps = Sd.put (Sd.puts ps) := rfl
  have Hrec := Lib.hid hrec
  clear hat hm hle hL hp hrec
  go_enter Tryz.func23, Tryz.ntmps23
  go_wp2_with fail
  go_loopw [3, 8] (fun sv iv wr => ∃ k : Nat, k ≤ ps.length ∧ iv = .int .i64 (k : Int) ∧ sv = .string ⟨(Sd.puts (ps.take k)).toArray⟩ ∧ (Sd.puts (ps.take k)).length ≤ k * 1008 ∧ Below w.heap.size w wr) (fun _ iv _ => ps.length - (intOf iv).toNat)
  case atStart => exact ⟨0, Nat.zero_le _, rfl, rfl, by simp [Sd.puts], Below.refl _ _⟩
  case round =>
    obtain ⟨k, hk, rfl, rfl, hsz, hb⟩ := hrel
    have Hb := Lib.hid hb; clear hb
    by_cases hlt : k < ps.length
    · obtain ⟨x, hx⟩ : ∃ x, ps[k]? = some x := ⟨_, List.getElem?_eq_getElem hlt⟩
      obtain ⟨b, off, vs, rfl, _, hbw, hR, hc⟩ := Hat.out k x hx
      have hR : vs = _ := hR
      subst hR
      have e0 : wr.cell? ⟨b, off + k, none⟩ = some (.string ⟨x.toArray⟩) := by
        have := (Hb.out.cell (p := ⟨b, off + (k * 1 + 0), none⟩) hbw).trans (hc 0 _ rfl)
        rwa [Nat.mul_one, Nat.add_zero] at this
      have hxl := Hp.out x (List.mem_of_getElem? hx)
      have hps := put_size x hxl
      have htk : Sd.puts (ps.take (k + 1)) = Sd.puts (ps.take k) ++ Sd.put x := by
        rw [List.take_add_one, hx, Sd.puts_append]
        unfold Sd.puts
        simp
      have Htk := Lib.hid htk
      obtain ⟨acc, hacc⟩ : ∃ acc, Sd.puts (ps.take k) = acc := ⟨_, rfl⟩
      rw [hacc] at hsz Htk ⊢
      obtain ⟨px, hpx⟩ : ∃ px, Sd.put x = px := ⟨_, rfl⟩
      rw [hpx] at hps Htk
      have Hpx := Lib.hid hpx
      have hk10 : k * 1008 ≤ 10 * 1008 := Nat.mul_le_mul_right _ (by omega)
      have hadd : ¬ 9223372036854775807 < acc.length + px.length := by omega
      have hlt' : (k : Int) < (ps.length : Int) := by omega
      have Hlt := Lib.hid hlt; have Hsz := Lib.hid hsz; have Hps := Lib.hid hps
      have hx6 : x.length ≤ 999999 := by omega
      clear hx hc htk hacc hpx hlt hk10 hsz hps hxl
      go_wp2_with (go_at_call 39; refine (wire_put x _ (HL.out.cnt.below Hb.out) hx6).mono ?_; rw [Hpx.out]; rintro e w1 ⟨rfl, hb⟩; have Hb1 := Lib.hid (Hb.out.trans (hb.mono Hb.out.size)); clear hb)
      go_roundw
      case rel => exact ⟨k + 1, Hlt.out, by go_num, by rw [Htk.out]; exact congrArg Value.string (append_data _ _), by rw [Htk.out, List.length_append]; have := Hsz.out; have := Hps.out; omega, Hb1.out⟩
      case measure => have := Hlt.out; simp [intOf]; omega
    · have hlt' : ¬ (k : Int) < (ps.length : Int) := by omega
      have htk : ps.take k = ps := List.take_of_length_le (by omega)
      rw [htk] at hsz ⊢
      have hk10 : k * 1008 ≤ 10 * 1008 := Nat.mul_le_mul_right _ (by omega)
      have h6 : (Sd.puts ps).length ≤ 999999 := by omega
      clear hsz hk10 htk hlt
      go_wp2_with (go_at_call 39; refine (wire_put _ _ (HL.out.cnt.below Hb.out) h6).mono ?_; rintro e w1 ⟨rfl, hb⟩; have Hb1 := Lib.hid (Hb.out.trans (hb.mono Hb.out.size)); clear hb)
      go_ret
      exact ⟨by rw [Hrec.out]; rfl, Hb1.out⟩
end Go.Proofs.YtimmmjmmjokdbaaGreatDoor
