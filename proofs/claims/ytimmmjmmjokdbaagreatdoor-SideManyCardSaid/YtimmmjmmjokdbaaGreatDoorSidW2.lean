/- The walks of package side (layer 10), second part: keys. -/
import Derived.Test.YtimmmjmmjokdbaaGreatDoorSidW1
import Derived.Test.YtimmmjmmjokdbaaGreatDoorBytes
import Derived.Test.YtimmmjmmjokdbaaGreatDoorMapS
import Derived.Lib.Join
set_option linter.unusedSimpArgs false
set_option linter.unusedVariables false
namespace Go.Proofs.YtimmmjmmjokdbaaGreatDoor
open Go.RowKit

def RInt (n : Int) (vs : List Value) : Prop := vs = [.int .i64 n]
def RU8 (c : UInt8) (vs : List Value) : Prop := vs = [.int .u8 (c.toNat : Int)]
theorem RU8.size (c : UInt8) (vs : List Value) (h : RU8 c vs) : vs.length = 1 := by rw [h]; rfl
theorem RInt.size (c : Int) (vs : List Value) (h : RInt c vs) : vs.length = 1 := by rw [h]; rfl
theorem u8_info : (Tryz.prog.info? 5).map (fun i => (i.zero, i.size, i.bytes)) = some (some (.int .u8 0), 1, 1) := by kernel_rfl

/-- the place of a number among some, or -1 -/
def ixOf (ks : List Int) (n : Int) : Int := match ks.findIdx? (fun k => n == k) with | some i => (i : Int) | none => -1
set_option maxRecDepth 100000 in
set_option maxHeartbeats 800000 in
theorem std_index (ks : List Int) (v : Value) (n : Int) (S : Nat → Prop) (w : World) (hS : SliceIn S 1 RInt w v ks) :
    Calls Tryz.prog 98 #[v, .int .i64 n] w fun e w' => e = .returned (.int .i64 (ixOf ks n)) ∧ w = w' := by
  have hlm := hS.bound
  obtain ⟨p, cap, rfl, hle, hm, hat⟩ := hS
  have Hat := Lib.hid hat; clear hat hm hle
  go_enter Tryz.func98, Tryz.ntmps98
  go_wp2_with fail
  go_loop [8] (fun iv => ∃ k : Nat, k ≤ ks.length ∧ iv = .int .i64 (k : Int) ∧ (ks.take k).findIdx? (fun k => n == k) = none) (fun iv => ks.length - (intOf iv).toNat)
  case atStart => exact ⟨0, Nat.zero_le _, rfl, rfl⟩
  case round =>
    obtain ⟨k, hk, rfl, hno⟩ := hrel
    have Hno := Lib.hid hno; clear hno
    by_cases hlt : k < ks.length
    · obtain ⟨x, hx⟩ : ∃ x, ks[k]? = some x := ⟨_, List.getElem?_eq_getElem hlt⟩
      obtain ⟨b, off, vs, rfl, _, hbw, hR, hc⟩ := Hat.out k x hx
      have hR : vs = _ := hR
      subst hR
      have e0 : w.cell? ⟨b, off + k, none⟩ = some (.int .i64 x) := by have := hc 0 _ rfl; rwa [Nat.mul_one, Nat.add_zero] at this
      have hlt' : (k : Int) < (ks.length : Int) := by omega
      have hkl : (k : Int) + 1 ≤ 9223372036854775807 := by omega
      have Hx := Lib.hid hx; clear hx hc
      cases hp : (n == x)
      · have Hp := Lib.hid hp
        go_wp2_with fail
        go_round
        case rel => exact ⟨k + 1, by omega, by go_num, by rw [List.take_add_one, Hx.out, List.findIdx?_append, Hno.out]; simp [Hp.out]⟩
        case measure => simp [intOf]; omega
      · have Hp := Lib.hid hp
        go_wp2_with fail
        go_ret
        refine ⟨?_, rfl⟩
        have h : ks.findIdx? (fun k => n == k) = some k := by
          obtain ⟨h1, h2⟩ := List.getElem?_eq_some_iff.1 Hx.out
          rw [← List.take_append_drop k ks, List.findIdx?_append, Hno.out, List.drop_eq_getElem_cons h1, h2]
          have h3 := Hp.out
          simp [List.findIdx?_cons, h3, Nat.min_eq_left (Nat.le_of_lt hlt)]
        unfold ixOf
        rw [h]
        rfl
    · have hlt' : ¬ (k : Int) < (ks.length : Int) := by omega
      go_wp2_with fail
      go_ret
      refine ⟨?_, rfl⟩
      have h := Hno.out
      rw [List.take_of_length_le (by omega)] at h
      unfold ixOf
      rw [h]
      rfl
set_option maxHeartbeats 400000 in
theorem std_contains (ks : List Int) (v : Value) (n : Int) (b : Bool) (S : Nat → Prop) (w : World) (hS : SliceIn S 1 RInt w v ks) (hb : decide (0 ≤ ixOf ks n) = b) :
    Calls Tryz.prog 81 #[v, .int .i64 n] w fun e w' => e = .returned (.bool b) ∧ w = w' := by
  go_enter Tryz.func81, Tryz.ntmps81
  go_wp2_with (go_at_call 98; refine (std_index ks v n S _ hS).mono ?_; rintro e w1 ⟨rfl, rfl⟩)
  go_ret
  exact ⟨rfl, rfl⟩
/-- one of some kinds? -/
theorem macro_of (ks : List Int) (v : Value) (n : Int) (t : List UInt8) (b : Bool) (S : Nat → Prop) (w : World) (hS : SliceIn S 1 RInt w v ks) (hb : decide (0 ≤ ixOf ks n) = b) :
    Calls Tryz.prog 61 #[.agg #[.int .i64 n, .string ⟨t.toArray⟩], v] w fun e w' => e = .returned (.bool b) ∧ Below w.heap.size w w' := by
  have hb4 := below_new w (.cells #[.int .i64 n, .string ⟨t.toArray⟩] 92)
  have hS4 := hS.below' hb4
  have HS4 := Lib.hid hS4; have Hb4 := Lib.hid hb4
  clear hS hb4 hS4
  go_enter Tryz.func61, Tryz.ntmps61
  go_wp2_with (go_at_call 81; refine (std_contains ks v n b S _ HS4.out hb).mono ?_; rintro e w1 ⟨rfl, rfl⟩)
  go_ret
  exact ⟨rfl, Hb4.out⟩
/-- a slice that has just been built -/
theorem built1 {α : Type} (w : World) (t : TypeId) (R : α → List Value → Prop) (n : Nat) (xs : List α) (fl : List Value) (hr : RepRow R xs fl) (hsz : ∀ x vs, R x vs → vs.length = n) (hm : xs.length ≤ maxLen) : SliceIn (fun _ => True) n R (w.alloc (.cells fl.toArray t)) (.slice (some ⟨w.heap.size, 0, none⟩) xs.length xs.length) xs :=
  SliceIn.own (own_built w 0 t n xs.length fl (Nat.zero_le _) (hr.length hsz) hm) hr hsz rfl (fun _ _ => trivial)

theorem trimB_eq (l : List UInt8) : Lib.trimSuffix l [32] = Sd.trimB l := by
  unfold Lib.trimSuffix Sd.trimB Lib.hasSuffix
  rcases List.eq_nil_or_concat l with rfl | ⟨k, c, rfl⟩
  · rfl
  · rw [List.concat_eq_append]
    have h1 : [(32 : UInt8)].isSuffixOf (k ++ [c]) = (c == 32) := by
      rw [Bool.eq_iff_iff, List.isSuffixOf_iff_suffix, beq_iff_eq]
      constructor
      · intro h
        have := List.suffix_iff_eq_drop.1 h
        simp at this
        exact this.symm
      · rintro rfl
        exact ⟨k, rfl⟩
    rw [h1]
    by_cases hc : c = 32
    · subst hc; simp
    · simp [hc]

set_option maxRecDepth 100000 in
set_option maxHeartbeats 3200000 in
theorem macro_squeezed (s : List UInt8) (w : World) (hs : s.length ≤ 1000000) :
    Calls Tryz.prog 62 #[.string ⟨s.toArray⟩] w fun e w' => e = .returned (.string ⟨(Sd.sq s).toArray⟩) ∧ Below w.heap.size w w' := by
  obtain ⟨i0, hi, hz0, hz1, hz2⟩ := info_parts u8_info
  have Hi := Lib.hid hi; have Hz0 := Lib.hid hz0; have Hz1 := Lib.hid hz1; have Hz2 := Lib.hid hz2; clear hi hz0 hz1 hz2
  go_enter Tryz.func62, Tryz.ntmps62
  go_wp2_with fail
  go_loopw [3, 7] (fun bv iv wr => ∃ k : Nat, k ≤ s.length ∧ iv = .int .i64 (k : Int) ∧ OwnL w.heap.size 5 1 RU8 wr bv (Sd.sqGo true (s.take k)) ∧ Below w.heap.size w wr) (fun _ iv _ => s.length - (intOf iv).toNat)
  case atStart => exact ⟨0, Nat.zero_le _, rfl, OwnL.nil _ _ _ _ _, Below.refl _ _⟩
  case round =>
    obtain ⟨k, hk, rfl, hO, hb⟩ := hrel
    have HO := Lib.hid hO; have Hb := Lib.hid hb
    clear hO hb
    by_cases hlt : k < s.length
    · obtain ⟨x, hx⟩ : ∃ x, s[k]? = some x := ⟨_, List.getElem?_eq_getElem hlt⟩
      have hby := byte_at s k x hx
      have hlt' : (k : Int) < (s.length : Int) := by omega
      have hkl : (k : Int) + 1 ≤ 9223372036854775807 := by omega
      have hstep := Sd.sq_step s k x hx
      have hpv := Sd.prev_sq (s.take k)
      have hol := Sd.sqGo_len true (s.take k)
      rw [List.length_take] at hol
      obtain ⟨out, hout⟩ : ∃ out, Sd.sqGo true (s.take k) = out := ⟨_, rfl⟩
      rw [hout] at hstep hpv HO hol
      have hol2 : out.length ≤ 1000000 := by omega
      have Hstep := Lib.hid hstep; have Hpv := Lib.hid hpv
      clear hx hout hstep hpv hol
      obtain ⟨fl, hown, hrep⟩ := HO.out
      have Hown := Lib.hid hown; have Hrep := Lib.hid hrep
      have HSl := Lib.hid (HO.out.slice RU8.size (fun _ => True) (fun _ _ => trivial))
      obtain ⟨p, cap, rfl⟩ := HO.out.form
      clear hown hrep
      have Hkl := Lib.hid hkl; have Hlt := Lib.hid hlt
      by_cases hc : x = 32
      · subst hc
        by_cases hnil : out = []
        · have e1 : ((out.length : Int) == 0) = true := by rw [hnil]; rfl
          have hn : Sd.sqGo true (s.take (k + 1)) = out := by rw [Hstep.out, if_pos ⟨rfl, Hpv.out.2 (Or.inl hnil)⟩]
          have Hn := Lib.hid hn
          clear hn hnil
          go_wp2_with fail
          go_roundw
          case rel => exact ⟨k + 1, by omega, by go_num, by rw [Hn.out]; exact HO.out, Hb.out⟩
          case measure => simp [intOf]; omega
        · have hpos : 0 < out.length := List.length_pos_iff.2 hnil
          have e1 : ((out.length : Int) == 0) = false := by rw [beq_eq_false_iff_ne]; omega
          obtain ⟨q, hq⟩ : ∃ q, out.length = q + 1 := ⟨out.length - 1, by omega⟩
          obtain ⟨y, hy⟩ : ∃ y, out[q]? = some y := ⟨_, List.getElem?_eq_getElem (by omega)⟩
          have hlast : out.getLast? = some y := by rw [List.getLast?_eq_getElem?, hq]; exact hy
          obtain ⟨p', cap', hv, _, _, hat⟩ := HSl.out
          obtain ⟨b, off, vs, hpb, _, hbw, hR, hcc⟩ := hat q y hy
          have hR : vs = _ := hR
          subst hR
          injection hv with hv _ hcap
          subst hv
          subst hpb
          have e0 : wr.cell? ⟨b, off + q, none⟩ = some (.int .u8 (y.toNat : Int)) := by have := hcc 0 _ rfl; rwa [Nat.mul_one, Nat.add_zero] at this
          have hw1 : IntKind.i64.wrap ((out.length : Int) - 1) = (q : Int) := by rw [IntWalk.i64_in _ (by omega)]; omega
          have hql : (q : Int) < (out.length : Int) := by omega
          have hyl := y.toNat_lt
          by_cases hy32 : y = 32
          · have e2 : ((y.toNat : Int) == 32) = true := by rw [hy32]; rfl
            have hn : Sd.sqGo true (s.take (k + 1)) = out := by rw [Hstep.out, if_pos ⟨rfl, Hpv.out.2 (Or.inr (by rw [hlast, hy32]))⟩]
            have Hn := Lib.hid hn
            clear hn hnil hpos hq hy hlast hcc hat hy32
            go_wp2_with fail
            go_roundw
            case rel => exact ⟨k + 1, by omega, by go_num, by rw [Hn.out]; exact HO.out, Hb.out⟩
            case measure => simp [intOf]; omega
          · have e2 : ((y.toNat : Int) == 32) = false := by rw [beq_eq_false_iff_ne]; intro h; exact hy32 (UInt8.toNat_inj.1 (by show y.toNat = 32; omega))
            have hn : Sd.sqGo true (s.take (k + 1)) = out ++ [32] := by
              rw [Hstep.out, if_neg]
              rintro ⟨_, h⟩
              rcases Hpv.out.1 h with h | h
              · exact hnil h
              · rw [hlast] at h; exact hy32 (Option.some.inj h)
            have Hn := Lib.hid hn
            clear hn hnil hpos hq hy hlast hcc hat hy32
            go_upto_region 6 with fail
            clear hw1 hql e0 e1 e2 hyl
            go_wp2_with (at_builtin; go_loud (refine wpList_append1 rfl (.tmp 28) (.tmp 32) 54 rfl w.heap.size 5 i0 (.int .u8 0) 1 1 Tryz.underlying54 Hi.out Hz0.out Hz1.out Hz2.out rfl (by decide) _ _ _ Hown.out rfl [.int .u8 ((32 : UInt8).toNat : Int)] rfl (by simp) rfl (by simp [Value.oneCell']) (by unfold maxLen; omega) (by omega) Hb.out.size ?_); intro v2 w2 own2 g2 at2)
            go_roundw
            case rel => exact ⟨k + 1, by omega, by go_num, by rw [Hn.out]; exact OwnL.more Hrep.out rfl own2, Hb.out.grown g2 Hb.out.size (fun q e => (Hown.out.lt q e).1)⟩
            case measure => simp [intOf]; omega
      · have e1 : ((x.toNat : Int) == 32) = false := by rw [beq_eq_false_iff_ne]; intro h; exact hc (UInt8.toNat_inj.1 (by show x.toNat = 32; omega))
        have hn : Sd.sqGo true (s.take (k + 1)) = out ++ [x] := by rw [Hstep.out, if_neg (fun h => hc h.1)]
        have Hn := Lib.hid hn
        clear hn hc
        go_wp2_with (at_builtin; go_loud (refine wpList_append1 rfl (.tmp 28) (.tmp 32) 54 rfl w.heap.size 5 i0 (.int .u8 0) 1 1 Tryz.underlying54 Hi.out Hz0.out Hz1.out Hz2.out rfl (by decide) _ _ _ Hown.out rfl [.int .u8 ((x : UInt8).toNat : Int)] rfl (by simp) rfl (by simp [Value.oneCell']) (by unfold maxLen; omega) (by omega) Hb.out.size ?_); intro v2 w2 own2 g2 at2)
        go_roundw
        case rel => exact ⟨k + 1, by omega, by go_num, by rw [Hn.out]; exact OwnL.more Hrep.out rfl own2, Hb.out.grown g2 Hb.out.size (fun q e => (Hown.out.lt q e).1)⟩
        case measure => simp [intOf]; omega
    · have hlt' : ¬ (k : Int) < (s.length : Int) := by omega
      have htk : s.take k = s := List.take_of_length_le (by omega)
      rw [htk] at HO
      have hol := Sd.sqGo_len true s
      obtain ⟨out, hout⟩ : ∃ out, Sd.sqGo true s = out := ⟨_, rfl⟩
      have hsq : Sd.sq s = Sd.trimB out := by unfold Sd.sq; rw [hout]
      rw [hout] at HO hol
      have hol2 : (⟨out.toArray⟩ : ByteArray).size ≤ 9223372036854775807 := by rw [size_mk]; omega
      have Hsq := Lib.hid hsq
      have HSl := HO.out.slice RU8.size (fun _ => True) (fun _ _ => trivial)
      obtain ⟨p, cap, rfl⟩ := HO.out.form
      obtain ⟨p', cap', hv, _, _, hat⟩ := HSl
      injection hv with hv _ hcap
      subst hv
      subst hcap
      have hcv : (convert 54 9 (.slice p out.length cap)).run Tryz.prog wr = .ok (.string ⟨out.toArray⟩) wr := by
        cases p with
        | none =>
          have h0 : out = [] := by
            rcases List.eq_nil_or_concat out with h | ⟨l, c, h⟩
            · exact h
            · obtain ⟨b, off, vs, hpb, _⟩ := hat l.length c (by rw [h]; simp)
              cases hpb
          rw [run_convert_bytes_nil wr 54 5 Tryz.underlying54 Tryz.underlying5 _ _ 9 Tryz.underlying9, h0]
          rfl
        | some a =>
          refine run_convert_bytes_back (P := Tryz.prog) wr 54 9 5 a cap out Tryz.underlying54 Tryz.underlying5 Tryz.underlying9 (fun j hj => ?_)
          obtain ⟨b, off, vs, hpb, _, hbw, hR, hcc⟩ := hat j _ (List.getElem?_eq_getElem hj)
          have hR : vs = _ := hR
          subst hR
          injection hpb with hpb
          subst hpb
          have := hcc 0 _ rfl
          rw [Nat.mul_one, Nat.add_zero] at this
          rw [Addr.add_lit]
          exact this
      clear hat hol hout htk hsq hlt
      go_wp2_with (go_at_call 82; refine (Tryz.strings_TrimSuffix _ _ _ hol2).mono ?_; rintro e w1 ⟨rfl, rfl⟩)
      go_ret
      refine ⟨?_, Hb.out⟩
      rw [Hsq.out, ← trimB_eq]
      rfl
end Go.Proofs.YtimmmjmmjokdbaaGreatDoor
