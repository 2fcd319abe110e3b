/- The document's maps of files (stetref02): names, a file dropped, a file's text: plain, and their walks. The document's maps of files: a file put (stetref02.Put): plain, and its walk. -/
import Derived.Test.YthoblbdkmlggbaaGreatDoorIxK
import Derived.Test.YthoblbdkmlggbaaGreatDoorIxO
import Derived.BigQuiet
set_option linter.unusedSimpArgs false
set_option linter.unusedVariables false
namespace Go.Proofs.YthoblbdkmlggbaaGreatDoor
section
open Go.RowKit
theorem file_info : (Tryz.prog.info? 53).map (fun i => (i.zero, i.size, i.bytes)) = some (some (.agg #[.string ⟨#[]⟩, .string ⟨#[]⟩]), 2, 32) := by kernel_rfl
theorem f2_w1 (i : Nat) (h : i ≤ 9223372036854775806) : wrap64 ((i : Int) + 1) = ((i + 1 : Nat) : Int) := by unfold wrap64; omega
namespace Ix
theorem nameB_arms (c : UInt8) : nameB c = ((decide (97 ≤ c.toNat) && decide (c.toNat ≤ 122)) || (decide (48 ≤ c.toNat) && decide (c.toNat ≤ 57)) || decide (c.toNat = 45) || decide (c.toNat = 46)) := by
  have := byte_all (fun c => nameB c == ((decide (97 ≤ c.toNat) && decide (c.toNat ≤ 122)) || (decide (48 ≤ c.toNat) && decide (c.toNat ≤ 57)) || decide (c.toNat = 45) || decide (c.toNat = 46))) (by decide +kernel) c
  simpa using this
abbrev Fl := List UInt8 × List UInt8
def drop (l : List Fl) (n : List UInt8) : List Fl := l.filter fun x => !(x.1 == n)
theorem drop_snoc (l : List Fl) (n : List UInt8) (k : Nat) (x : Fl) (h : l[k]? = some x) : drop (l.take (k + 1)) n = if x.1 == n then drop (l.take k) n else drop (l.take k) n ++ [x] := by
  unfold drop
  rw [take_snoc l k x h, List.filter_append]
  cases hc : (x.1 == n) with
  | true => rw [if_pos rfl, List.filter_cons, hc]; simp
  | false => rw [if_neg (by simp), List.filter_cons, hc]; rfl
theorem drop_len (l : List Fl) (n : List UInt8) : (drop l n).length ≤ l.length := List.length_filter_le _ _
theorem get_none (l : List Fl) (n : List UInt8) (h : ∀ x ∈ l, x.1 ≠ n) : get l n = none := by
  unfold get
  rw [List.find?_eq_none.2 (fun x hx => by simpa using h x hx)]
  rfl
theorem get_at (l : List Fl) (n : List UInt8) (k : Nat) (x : Fl) (h : l[k]? = some x) (hn : ∀ y ∈ l.take k, y.1 ≠ n) (hx : (x.1 == n) = true) : get l n = some x.2 := by
  have hs : l = l.take k ++ x :: l.drop (k + 1) := by
    obtain ⟨h1, h2⟩ := List.getElem?_eq_some_iff.1 h
    rw [← h2, ← List.drop_eq_getElem_cons h1, List.take_append_drop]
  unfold get
  rw [hs, List.find?_append, List.find?_eq_none.2 (fun y hy => by simpa using hn y hy), List.find?_cons, hx]
  rfl
end Ix
set_option maxRecDepth 100000 in
set_option maxHeartbeats 1600000 in
theorem ref02_name (s : List UInt8) (w : World) (hs : s.length ≤ 9223372036854775807) :
    Calls Tryz.prog 72 #[.string ⟨s.toArray⟩] w fun e w' => e = .returned (.bool (Ix.nameOk s)) ∧ w' = w := by
  have Hs := Lib.hid hs; clear hs
  go_enter Tryz.func72, Tryz.ntmps72
  go_wp2_with fail
  go_loopw [2, 3] (fun _ iv wr => ∃ k : Nat, k ≤ s.length ∧ iv = .int .i64 (k : Int) ∧ (s.take k).all Ix.nameB = true ∧ wr = w) (fun _ iv _ => s.length - (intOf iv).toNat)
  case atStart => exact ⟨0, Nat.zero_le _, rfl, rfl, rfl⟩
  case round =>
    obtain ⟨k, hk, rfl, ht, hw⟩ := hrel
    subst hw
    have Ht := Lib.hid ht; clear ht
    by_cases hlt : k < s.length
    · obtain ⟨c, hc⟩ : ∃ c, s[k]? = some c := ⟨_, List.getElem?_eq_getElem hlt⟩
      have hlt' : (k : Int) < (s.length : Int) := by omega
      have hby := byte_at s k c hc
      have hwk := f2_w1 k (by have := Hs.out; omega)
      have Hc := Lib.hid hc; have Hlt := Lib.hid hlt; have Hwk := Lib.hid hwk
      have harm := Lib.hid (Ix.nameB_arms c)
      clear hc hlt hk hwk
      go_upto_region 5 with fail
      clear hlt' hby
      go_cut [36] from 14 to 36 (fun v W => v = .bool (!Ix.nameB c) ∧ W = wr)
      case first =>
        by_cases h1 : 97 ≤ c.toNat
        · by_cases h2 : c.toNat ≤ 122
          · have g0 : decide ((97 : Int) ≤ (c.toNat : Int)) = true := decide_eq_true (by omega)
            have g1 : decide ((c.toNat : Int) ≤ 122) = true := decide_eq_true (by omega)
            have hv := Lib.hid (show (!Ix.nameB c) = false by rw [harm.out]; simp; omega)
            clear h1 h2
            go_wp2_with fail
            go_meet
            exact ⟨by rw [hv.out], rfl⟩
          · have g0 : decide ((97 : Int) ≤ (c.toNat : Int)) = true := decide_eq_true (by omega)
            have g1 : decide ((c.toNat : Int) ≤ 122) = false := decide_eq_false (by omega)
            have g2 : decide ((48 : Int) ≤ (c.toNat : Int)) = true := decide_eq_true (by omega)
            have g3 : decide ((c.toNat : Int) ≤ 57) = false := decide_eq_false (by omega)
            have g4 : ((c.toNat : Int) == 45) = false := by first | (simp; omega) | (rw [beq_iff_eq]; omega)
            have g5 : ((c.toNat : Int) == 46) = false := by first | (simp; omega) | (rw [beq_iff_eq]; omega)
            have hv := Lib.hid (show (!Ix.nameB c) = true by rw [harm.out]; simp; omega)
            clear h1 h2
            go_wp2_with fail
            go_meet
            exact ⟨by rw [hv.out], rfl⟩
        · by_cases h3 : 48 ≤ c.toNat
          · by_cases h4 : c.toNat ≤ 57
            · have g0 : decide ((97 : Int) ≤ (c.toNat : Int)) = false := decide_eq_false (by omega)
              have g1 : decide ((48 : Int) ≤ (c.toNat : Int)) = true := decide_eq_true (by omega)
              have g2 : decide ((c.toNat : Int) ≤ 57) = true := decide_eq_true (by omega)
              have hv := Lib.hid (show (!Ix.nameB c) = false by rw [harm.out]; simp; omega)
              clear h1 h3 h4
              go_wp2_with fail
              go_meet
              exact ⟨by rw [hv.out], rfl⟩
            · have g0 : decide ((97 : Int) ≤ (c.toNat : Int)) = false := decide_eq_false (by omega)
              have g1 : decide ((48 : Int) ≤ (c.toNat : Int)) = true := decide_eq_true (by omega)
              have g2 : decide ((c.toNat : Int) ≤ 57) = false := decide_eq_false (by omega)
              have g3 : ((c.toNat : Int) == 45) = false := by first | (simp; omega) | (rw [beq_iff_eq]; omega)
              have g4 : ((c.toNat : Int) == 46) = false := by first | (simp; omega) | (rw [beq_iff_eq]; omega)
              have hv := Lib.hid (show (!Ix.nameB c) = true by rw [harm.out]; simp; omega)
              clear h1 h3 h4
              go_wp2_with fail
              go_meet
              exact ⟨by rw [hv.out], rfl⟩
          · by_cases h5 : c.toNat = 45
            · have g0 : decide ((97 : Int) ≤ (c.toNat : Int)) = false := decide_eq_false (by omega)
              have g1 : decide ((48 : Int) ≤ (c.toNat : Int)) = false := decide_eq_false (by omega)
              have g2 : ((c.toNat : Int) == 45) = true := by first | (simp; omega) | (rw [beq_iff_eq]; omega)
              have hv := Lib.hid (show (!Ix.nameB c) = false by rw [harm.out]; simp; omega)
              clear h1 h3 h5
              go_wp2_with fail
              go_meet
              exact ⟨by rw [hv.out], rfl⟩
            · by_cases h6 : c.toNat = 46
              · have g0 : decide ((97 : Int) ≤ (c.toNat : Int)) = false := decide_eq_false (by omega)
                have g1 : decide ((48 : Int) ≤ (c.toNat : Int)) = false := decide_eq_false (by omega)
                have g2 : ((c.toNat : Int) == 45) = false := by first | (simp; omega) | (rw [beq_iff_eq]; omega)
                have g3 : ((c.toNat : Int) == 46) = true := by first | (simp; omega) | (rw [beq_iff_eq]; omega)
                have hv := Lib.hid (show (!Ix.nameB c) = false by rw [harm.out]; simp; omega)
                clear h1 h3 h5 h6
                go_wp2_with fail
                go_meet
                exact ⟨by rw [hv.out], rfl⟩
              · have g0 : decide ((97 : Int) ≤ (c.toNat : Int)) = false := decide_eq_false (by omega)
                have g1 : decide ((48 : Int) ≤ (c.toNat : Int)) = false := decide_eq_false (by omega)
                have g2 : ((c.toNat : Int) == 45) = false := by first | (simp; omega) | (rw [beq_iff_eq]; omega)
                have g3 : ((c.toNat : Int) == 46) = false := by first | (simp; omega) | (rw [beq_iff_eq]; omega)
                have hv := Lib.hid (show (!Ix.nameB c) = true by rw [harm.out]; simp; omega)
                clear h1 h3 h5 h6
                go_wp2_with fail
                go_meet
                exact ⟨by rw [hv.out], rfl⟩
      case rest =>
        obtain ⟨rfl, hw⟩ := hcut
        have hw := hw.symm
        subst hw
        cases hn : Ix.nameB c with
        | true =>
          have Ht2 := Lib.hid (show (s.take (k + 1)).all Ix.nameB = true by rw [List.take_add_one, Hc.out, List.all_append, Ht.out]; simp [hn])
          clear hn
          go_wp2_with fail
          go_roundw
          case rel => exact ⟨k + 1, by have := Hlt.out; omega, by first | rfl | rw [Hwk.out], Ht2.out, trivial⟩
          case measure => have := Hlt.out; (try rw [Hwk.out]); simp [intOf]; omega
        | false =>
          have Hr := Lib.hid (show Ix.nameOk s = false by
            have h2 : s.all Ix.nameB = false := by
              rw [List.all_eq_false]
              exact ⟨c, List.mem_of_getElem? Hc.out, by rw [hn]; simp⟩
            unfold Ix.nameOk
            rw [h2]; rfl)
          clear hn
          go_wp2_with fail
          go_ret
          exact ⟨ret_bool Hr.out.symm, rfl⟩
    · have he : k = s.length := by omega
      subst he
      have ha := Ht.out
      rw [List.take_length] at ha
      have Ha := Lib.hid ha
      clear hlt hk ha
      by_cases h1 : 1 ≤ s.length
      · have g1 : decide ((1 : Int) ≤ (s.length : Int)) = true := decide_eq_true (by omega)
        by_cases h2 : s.length ≤ 24
        · have g2 : decide ((s.length : Int) ≤ 24) = true := decide_eq_true (by omega)
          have Hr := Lib.hid (show Ix.nameOk s = true by unfold Ix.nameOk; rw [Ha.out]; simp [h1, h2])
          clear h1 h2
          go_wp2_with fail
          go_ret
          exact ⟨ret_bool Hr.out.symm, rfl⟩
        · have g2 : decide ((s.length : Int) ≤ 24) = false := decide_eq_false (by omega)
          have Hr := Lib.hid (show Ix.nameOk s = false by unfold Ix.nameOk; rw [Ha.out]; simp; intro _; omega)
          clear h1 h2
          go_wp2_with fail
          go_ret
          exact ⟨ret_bool Hr.out.symm, rfl⟩
      · have g1 : decide ((1 : Int) ≤ (s.length : Int)) = false := decide_eq_false (by omega)
        have Hr := Lib.hid (show Ix.nameOk s = false by unfold Ix.nameOk; rw [Ha.out]; simp [h1])
        clear h1
        go_wp2_with fail
        go_ret
        exact ⟨ret_bool Hr.out.symm, rfl⟩
set_option maxRecDepth 100000 in
set_option maxHeartbeats 1600000 in
theorem ref02_drop (l : List Ix.Fl) (n : List UInt8) (v : Value) (S : Nat → Prop) (w : World) (hS : SliceIn S 2 RFl w v l) (hl : l.length ≤ 100000) :
    Calls Tryz.prog 73 #[v, .string ⟨n.toArray⟩] w fun e w' => ∃ g c : Nat, e = .returned (.tuple #[.slice (some ⟨g, 0, none⟩) (Ix.drop l n).length c, .bool (decide ((Ix.drop l n).length < l.length))]) ∧ OwnL w.heap.size 53 2 RFl w' (.slice (some ⟨g, 0, none⟩) (Ix.drop l n).length c) (Ix.drop l n) ∧ Below w.heap.size w w' := by
  obtain ⟨i0, hi, hz0, hz1, hz2⟩ := info_parts file_info
  have Hi := Lib.hid hi; have Hz0 := Lib.hid hz0; have Hz1 := Lib.hid hz1; have Hz2 := Lib.hid hz2; clear hi hz0 hz1 hz2
  obtain ⟨pa, cap, rfl, hle, hmx, hat⟩ := hS
  have Hat := Lib.hid hat; have Hl := Lib.hid hl
  clear hat hl hle hmx
  have hO := Lib.hid (OwnL.made w.heap.size 53 2 RFl w (Nat.le_refl _))
  have hB := Lib.hid (below_new w (.cells #[] 53))
  go_enter Tryz.func73, Tryz.ntmps73
  go_wp2_with fail
  go_loopw [6, 7] (fun ov iv wr => ∃ k g c : Nat, k ≤ l.length ∧ iv = .int .i64 (k : Int) ∧ ov = .slice (some ⟨g, 0, none⟩) (Ix.drop (l.take k) n).length c ∧ OwnL w.heap.size 53 2 RFl wr ov (Ix.drop (l.take k) n) ∧ Below w.heap.size w wr) (fun _ iv _ => l.length - (intOf iv).toNat)
  case atStart => exact ⟨0, _, _, Nat.zero_le _, rfl, rfl, hO.out, hB.out⟩
  case round =>
    clear hO hB
    obtain ⟨k, g, c, hk, rfl, rfl, hO, hb⟩ := hrel
    have HO := Lib.hid hO; have Hb := Lib.hid hb
    clear hO hb
    by_cases hlt : k < l.length
    · obtain ⟨x, hx⟩ : ∃ x, l[k]? = some x := ⟨_, List.getElem?_eq_getElem hlt⟩
      have hsn := Ix.drop_snoc l n k x hx
      have hll : (Ix.drop (l.take k) n).length ≤ 100000 := by have := Ix.drop_len (l.take k) n; rw [List.length_take] at this; have := Hl.out; omega
      obtain ⟨L, hL⟩ : ∃ L, L = Ix.drop (l.take k) n := ⟨_, rfl⟩
      rw [← hL] at HO hsn hll ⊢
      obtain ⟨b, off, vs, rfl, _, hbw, hR, hc⟩ := Hat.out k x hx
      have hR : vs = _ := hR
      subst hR
      obtain ⟨xn, xt⟩ := x
      have e0 : wr.cell? ⟨b, off + k * 2, none⟩ = some (.string ⟨xn.toArray⟩) := (Hb.out.cell (p := ⟨b, off + k * 2, none⟩) hbw).trans (hc 0 _ rfl)
      have e1 : wr.cell? ⟨b, off + k * 2 + 1, none⟩ = some (.string ⟨xt.toArray⟩) := (Hb.out.cell (p := ⟨b, off + k * 2 + 1, none⟩) hbw).trans (hc 1 _ rfl)
      have hlt' : (k : Int) < (l.length : Int) := by omega
      have hwk := f2_w1 k (by have := Hl.out; omega)
      have Hwk := Lib.hid hwk; have Hlt := Lib.hid hlt; have Hsn := Lib.hid hsn; have Hll := Lib.hid hll
      clear hwk hlt hk hx hL hc hbw hsn hll
      obtain ⟨fl, hown, hrep⟩ := HO.out
      have Hown := Lib.hid hown; have Hrep := Lib.hid hrep
      have Hm1 := Lib.hid (show L.length + 1 ≤ maxLen by have := Hll.out; unfold maxLen; omega)
      have Hn1 := Lib.hid (show (L.length + 1) * 32 ≤ 140737488355328 by have := Hll.out; omega)
      have H0W := Lib.hid Hb.out.size
      clear hown hrep
      cases hxn : (xn == n) with
      | true =>
        have Hst := Lib.hid (show Ix.drop (l.take (k + 1)) n = L by rw [Hsn.out]; simp only [hxn]; simp)
        go_wp2_with fail
        go_roundw
        case rel => exact ⟨k + 1, g, c, by have := Hlt.out; omega, by first | rfl | rw [Hwk.out], by rw [Hst.out], by rw [Hst.out]; exact HO.out, Hb.out⟩
        case measure => have := Hlt.out; (try rw [Hwk.out]); simp [intOf]; omega
      | false =>
        have Hst := Lib.hid (show Ix.drop (l.take (k + 1)) n = L ++ [(xn, xt)] by rw [Hsn.out]; simp only [hxn]; simp)
        go_wp2_with (at_builtin; go_loud (refine wpList_append1 rfl (.tmp 22) (.tmp 27) 48 rfl w.heap.size 53 i0 (.agg #[.string ⟨#[]⟩, .string ⟨#[]⟩]) 2 32 Tryz.underlying48 Hi.out Hz0.out Hz1.out Hz2.out rfl (by decide) _ _ _ Hown.out rfl [.string ⟨xn.toArray⟩, .string ⟨xt.toArray⟩] rfl (by simp) rfl (by simp [Value.oneCell']) Hm1.out Hn1.out H0W.out ?_); intro v2 w9 own2 g2 at2; obtain ⟨p2, cap2, hv2, _⟩ := own2.form (Nat.succ_pos _); subst hv2)
        go_roundw
        case rel =>
          refine ⟨k + 1, p2, cap2, by have := Hlt.out; omega, by first | rfl | rw [Hwk.out], by rw [Hst.out, List.length_append]; rfl, ?_, Hb.out.grown g2 H0W.out (fun q e => (World.ownsRow.lt Hown.out q e).1)⟩
          rw [Hst.out]
          exact ⟨_, by rw [List.length_append]; exact own2, RepRow.snoc (R := RFl) (x := (xn, xt)) (vs := [.string ⟨xn.toArray⟩, .string ⟨xt.toArray⟩]) rfl Hrep.out⟩
        case measure => have := Hlt.out; (try rw [Hwk.out]); simp [intOf]; omega
    · have he : k = l.length := by omega
      subst he
      rw [List.take_length] at HO ⊢
      obtain ⟨D, hD⟩ : ∃ D, D = Ix.drop l n := ⟨_, rfl⟩
      rw [← hD] at HO ⊢
      have HD := Lib.hid hD
      clear hlt hk hD
      go_wp2_with fail
      go_ret2
      exact ⟨g, c, by rw [← HD.out]; simp, by rw [← HD.out]; exact HO.out, Hb.out⟩
set_option maxRecDepth 100000 in
set_option maxHeartbeats 1600000 in
theorem ref02_get (l : List Ix.Fl) (n : List UInt8) (v : Value) (S : Nat → Prop) (w : World) (hS : SliceIn S 2 RFl w v l) (hl : l.length ≤ 100000) :
    Calls Tryz.prog 49 #[v, .string ⟨n.toArray⟩] w fun e w' => e = .returned (.tuple #[.string ⟨((Ix.get l n).getD []).toArray⟩, .bool (Ix.get l n).isSome]) ∧ w' = w := by
  obtain ⟨pa, cap, rfl, hle, hmx, hat⟩ := hS
  have Hat := Lib.hid hat; have Hl := Lib.hid hl
  clear hat hl hle hmx
  go_enter Tryz.func49, Tryz.ntmps49
  go_wp2_with fail
  go_loopw [6] (fun iv wr => ∃ k : Nat, k ≤ l.length ∧ iv = .int .i64 (k : Int) ∧ (∀ y ∈ l.take k, y.1 ≠ n) ∧ wr = w) (fun iv _ => l.length - (intOf iv).toNat)
  case atStart => exact ⟨0, Nat.zero_le _, rfl, by simp, rfl⟩
  case round =>
    obtain ⟨k, hk, rfl, hn, hw⟩ := hrel
    subst hw
    have Hn := Lib.hid hn; clear hn
    by_cases hlt : k < l.length
    · obtain ⟨x, hx⟩ : ∃ x, l[k]? = some x := ⟨_, List.getElem?_eq_getElem hlt⟩
      obtain ⟨b, off, vs, rfl, _, hbw, hR, hc⟩ := Hat.out k x hx
      have hR : vs = _ := hR
      subst hR
      obtain ⟨xn, xt⟩ := x
      have e0 : wr.cell? ⟨b, off + k * 2, none⟩ = some (.string ⟨xn.toArray⟩) := hc 0 _ rfl
      have e1 : wr.cell? ⟨b, off + k * 2 + 1, none⟩ = some (.string ⟨xt.toArray⟩) := hc 1 _ rfl
      have hlt' : (k : Int) < (l.length : Int) := by omega
      have hwk := f2_w1 k (by have := Hl.out; omega)
      have Hwk := Lib.hid hwk; have Hlt := Lib.hid hlt; have Hx := Lib.hid hx
      clear hwk hlt hk hx hc hbw
      cases hxn : (xn == n) with
      | true =>
        have Hg := Lib.hid (Ix.get_at l n k (xn, xt) Hx.out Hn.out hxn)
        go_wp2_with fail
        go_ret2
        exact ⟨by rw [Hg.out]; simp, rfl⟩
      | false =>
        have Hn2 := Lib.hid (show ∀ y ∈ l.take (k + 1), y.1 ≠ n by
          rw [Ix.take_snoc l k _ Hx.out]
          intro y hy
          rcases List.mem_append.1 hy with hy | hy
          · exact Hn.out y hy
          · rw [List.mem_singleton] at hy
            subst hy
            simpa using hxn)
        go_wp2_with fail
        go_roundw
        case rel => exact ⟨k + 1, by have := Hlt.out; omega, by first | rfl | rw [Hwk.out], Hn2.out, trivial⟩
        case measure => have := Hlt.out; (try rw [Hwk.out]); simp [intOf]; omega
    · have he : k = l.length := by omega
      subst he
      have hn := Hn.out
      rw [List.take_length] at hn
      have Hg := Lib.hid (Ix.get_none l n hn)
      clear hn hlt hk
      go_wp2_with fail
      go_ret2
      exact ⟨by rw [Hg.out]; simp, rfl⟩
end
section
open Go.RowKit
namespace Ix
/-- so many files are ahead of a name -/
def aheadN (l : List Fl) (n : List UInt8) : Nat := (l.takeWhile fun x => Op.bytesLess x.1 n).length
def putBig (l : List Fl) (f : Fl) : Bool := decide (4000 < f.2.length) || (!decide ((drop l f.1).length < l.length) && decide (32 ≤ l.length))
def putE (l : List Fl) (f : Fl) : Int := if nameOk f.1 then (if putBig l f then 3 else 0) else 2
def putL (l : List Fl) (f : Fl) : List Fl := (drop l f.1).take (aheadN (drop l f.1) f.1) ++ [f] ++ (drop l f.1).drop (aheadN (drop l f.1) f.1)
theorem aheadN_le (l : List Fl) (n : List UInt8) : aheadN l n ≤ l.length := (List.takeWhile_prefix _).length_le
theorem aheadN_lt (n : List UInt8) : ∀ (l : List Fl) (k : Nat) (x : Fl), l[k]? = some x → k < aheadN l n → Op.bytesLess x.1 n = true
  | [], k, x, h, _ => by simp at h
  | y :: r, k, x, h, hk => by
    unfold aheadN at hk
    rw [List.takeWhile_cons] at hk
    cases hy : Op.bytesLess y.1 n with
    | false => rw [hy] at hk; simp at hk
    | true =>
      rw [hy] at hk
      cases k with
      | zero => simp at h; rw [← h]; exact hy
      | succ k => exact aheadN_lt n r k x (by simpa using h) (by simpa [aheadN] using hk)
theorem aheadN_at (n : List UInt8) : ∀ (l : List Fl) (x : Fl), l[aheadN l n]? = some x → Op.bytesLess x.1 n = false
  | [], x, h => by simp at h
  | y :: r, x, h => by
    unfold aheadN at h
    rw [List.takeWhile_cons] at h
    cases hy : Op.bytesLess y.1 n with
    | false =>
      rw [hy] at h
      simp at h
      rw [← h]; exact hy
    | true =>
      rw [hy] at h
      exact aheadN_at n r x (by simpa [aheadN] using h)
theorem putL_len (l : List Fl) (f : Fl) : (putL l f).length ≤ l.length + 1 := by
  have h1 := aheadN_le (drop l f.1) f.1
  have h2 := drop_len l f.1
  unfold putL
  rw [List.length_append, List.length_append, List.length_take, List.length_drop]
  simp
  omega
end Ix
theorem flat2 (l : List Ix.Fl) : (l.flatMap cF).length = l.length * 2 := len_flat cF 2 (fun _ => rfl) l
theorem rep_flat2 (l : List Ix.Fl) (fl : List Value) (h : RepRow RFl l fl) : fl = l.flatMap cF := by
  induction l generalizing fl with
  | nil => exact h
  | cons x r ih =>
    obtain ⟨vs, rest, rfl, hx, hr⟩ := h
    have hx : vs = _ := hx
    rw [ih rest hr, hx, List.flatMap_cons]
    rfl
theorem row_flat2 (l : List Ix.Fl) : RepRow RFl l (l.flatMap cF) := rep_flat (R := RFl) cF (fun _ => rfl) l
theorem flat_get (l : List Ix.Fl) (j q : Nat) (x : Value) (h : ((l.drop j).flatMap cF)[q]? = some x) : (l.flatMap cF)[j * 2 + q]? = some x := by
  induction j generalizing l with
  | zero => simpa using h
  | succ j ih =>
    cases l with
    | nil => simp at h
    | cons y r =>
      rw [List.drop_succ_cons] at h
      have := ih r h
      rw [List.flatMap_cons, List.getElem?_append_right (by show 2 ≤ _; omega)]
      rw [show (j + 1) * 2 + q - (cF y).length = j * 2 + q by show (j + 1) * 2 + q - 2 = _; omega]
      exact this
set_option maxRecDepth 100000 in
set_option maxHeartbeats 6400000 in
theorem ref02_put (l : List Ix.Fl) (n t : List UInt8) (v : Value) (S : Nat → Prop) (w : World) (hS : SliceIn S 2 RFl w v l) (hl : l.length ≤ 10000) (hn : n.length ≤ 9223372036854775807) (ht : t.length ≤ 1000000) :
    Calls Tryz.prog 47 #[v, .agg #[.string ⟨n.toArray⟩, .string ⟨t.toArray⟩]] w fun e w' => ∃ va, e = .returned (.tuple #[va, .int .i64 (Ix.putE l (n, t))]) ∧ (Ix.putE l (n, t) = 0 → OwnL w.heap.size 53 2 RFl w' va (Ix.putL l (n, t))) ∧ Below w.heap.size w w' := by
  obtain ⟨i0, hi, hz0, hz1, hz2⟩ := info_parts file_info
  have Hi := Lib.hid hi; have Hz0 := Lib.hid hz0; have Hz1 := Lib.hid hz1; have Hz2 := Lib.hid hz2; clear hi hz0 hz1 hz2
  obtain ⟨pa, cap, rfl⟩ : ∃ pa cap, v = .slice pa l.length cap := by obtain ⟨pa, cap, h, _⟩ := hS; exact ⟨pa, cap, h⟩
  obtain ⟨W0, hW0⟩ : ∃ W, W = w.alloc (.cells #[.string ⟨n.toArray⟩, .string ⟨t.toArray⟩] 53) := ⟨_, rfl⟩
  have hB0 : Below w.heap.size w W0 := by rw [hW0]; exact below_new _ _
  have hs0 : W0.heap.size = w.heap.size + 1 := by rw [hW0]; simp
  have hc0 : W0.cell? ⟨w.heap.size, 0, none⟩ = some (.string ⟨n.toArray⟩) := by rw [hW0, cell_of_row _ _ _ _ _ _ (heap_alloc_new w _)]; rfl
  have hc1 : W0.cell? ⟨w.heap.size, 1, none⟩ = some (.string ⟨t.toArray⟩) := by rw [hW0, cell_of_row _ _ _ _ _ _ (heap_alloc_new w _)]; rfl
  have Bx := Lib.hid (show ∀ W, Below W0.heap.size W0 W → W.cell? ⟨w.heap.size, 0, none⟩ = some (.string ⟨n.toArray⟩) ∧ W.cell? ⟨w.heap.size, 1, none⟩ = some (.string ⟨t.toArray⟩) from fun W hW => ⟨(hW.cell (p := ⟨w.heap.size, 0, none⟩) (by show w.heap.size < _; omega)).trans hc0, (hW.cell (p := ⟨w.heap.size, 1, none⟩) (by show w.heap.size < _; omega)).trans hc1⟩)
  have HS := Lib.hid (show SliceIn S 2 RFl W0 (.slice pa l.length cap) l from hS.below hB0 (fun _ _ _ h => h))
  have HB0 := Lib.hid hB0; have Hs0 := Lib.hid hs0; have Hl := Lib.hid hl; have Hn := Lib.hid hn; have Ht := Lib.hid ht
  clear hS hB0 hs0 hc0 hc1 hl hn ht
  have hpe : Ix.putE l (n, t) = if Ix.nameOk n then (if Ix.putBig l (n, t) then 3 else 0) else 2 := rfl
  have Hpe := Lib.hid hpe; clear hpe
  go_enter Tryz.func47, Tryz.ntmps47
  go_upto_region 1 with fail
  rw [← hW0]
  clear hW0
  obtain ⟨B, hB⟩ : ∃ B, B = w.heap.size := ⟨_, rfl⟩
  have HBe := Lib.hid hB
  have b0 := (Bx.out W0 (Below.refl _ _)).1
  rw [← hB] at b0 ⊢
  have Bx' := Lib.hid (show ∀ W, Below W0.heap.size W0 W → W.cell? ⟨B, 0, none⟩ = some (.string ⟨n.toArray⟩) ∧ W.cell? ⟨B, 1, none⟩ = some (.string ⟨t.toArray⟩) by rw [hB]; exact Bx.out)
  clear Bx hB
  go_wp2_with fail
  refine (ref02_name n W0 Hn.out).mono ?_
  cases hok : Ix.nameOk n with
  | false =>
    rintro e w' ⟨rfl, hw'⟩
    have hw' := hw'.symm
    subst hw'
    have Hv := Lib.hid (show Ix.putE l (n, t) = 2 by rw [Hpe.out, hok]; rfl)
    clear hok
    go_wp2_with fail
    go_ret2
    exact ⟨.slice none 0 0, by rw [Hv.out]; simp, fun h => (by rw [Hv.out] at h; cases h), HB0.out⟩
  | true =>
    rintro e w' ⟨rfl, hw'⟩
    have hw' := hw'.symm
    subst hw'
    have Hok := Lib.hid hok; clear hok
    go_wp2_with fail
    refine (ref02_drop l n _ S W0 HS.out (by have := Hl.out; omega)).mono ?_
    rintro e w2 ⟨gr, cr, rfl, hR, hb2⟩
    have b1 := (Bx'.out w2 hb2).2
    have hbg : Ix.putBig l (n, t) = (decide (4000 < t.length) || (!decide ((Ix.drop l n).length < l.length) && decide (32 ≤ l.length))) := rfl
    have hpl : Ix.putL l (n, t) = (Ix.drop l n).take (Ix.aheadN (Ix.drop l n) n) ++ [(n, t)] ++ (Ix.drop l n).drop (Ix.aheadN (Ix.drop l n) n) := rfl
    have hRl := Ix.drop_len l n
    obtain ⟨R, hRe⟩ : ∃ R, R = Ix.drop l n := ⟨_, rfl⟩
    rw [← hRe] at hR hbg hpl hRl ⊢
    have hmle := Ix.aheadN_le R n
    have Hmlt := Lib.hid (Ix.aheadN_lt n R)
    have Hmat := Lib.hid (Ix.aheadN_at n R)
    obtain ⟨m, hm⟩ : ∃ m, m = Ix.aheadN R n := ⟨_, rfl⟩
    rw [← hm] at hmle Hmlt Hmat hpl
    obtain ⟨was, hwas⟩ : ∃ b, b = decide (R.length < l.length) := ⟨_, rfl⟩
    obtain ⟨big, hbig⟩ : ∃ b, b = Ix.putBig l (n, t) := ⟨_, rfl⟩
    rw [← hwas] at hbg ⊢
    rw [← hbig] at hbg
    have HR := Lib.hid hR; have Hb2 := Lib.hid hb2; have Hbg := Lib.hid hbg; have Hpl := Lib.hid hpl; have HRl := Lib.hid (show R.length ≤ 10000 by have := Hl.out; omega); have Hmle := Lib.hid hmle; have Hbig := Lib.hid hbig
    clear hR hb2 hbg hpl hRl hRe hmle hm hwas hbig b0
    go_upto_region 4 with fail
    go_cut [34] from 22 to 34 (fun v W => v = .bool big ∧ W = w2)
    case first =>
      by_cases h4 : 4000 < t.length
      · have g1 : decide ((4000 : Int) < (t.length : Int)) = true := decide_eq_true (by omega)
        have hv := Lib.hid (show big = true by rw [Hbg.out]; simp [h4])
        clear h4
        go_wp2_with fail
        go_meet
        exact ⟨by rw [hv.out], rfl⟩
      · have g1 : decide ((4000 : Int) < (t.length : Int)) = false := decide_eq_false (by omega)
        cases was with
        | true =>
          have hv := Lib.hid (show big = false by rw [Hbg.out]; simp; omega)
          clear h4
          go_wp2_with fail
          go_meet
          exact ⟨by rw [hv.out], rfl⟩
        | false =>
          by_cases h32 : 32 ≤ l.length
          · have g2 : decide ((32 : Int) ≤ (l.length : Int)) = true := decide_eq_true (by omega)
            have hv := Lib.hid (show big = true by rw [Hbg.out]; simp [h32])
            clear h4 h32
            go_wp2_with fail
            go_meet
            exact ⟨by rw [hv.out], rfl⟩
          · have g2 : decide ((32 : Int) ≤ (l.length : Int)) = false := decide_eq_false (by omega)
            have hv := Lib.hid (show big = false by rw [Hbg.out]; simp; omega)
            clear h4 h32
            go_wp2_with fail
            go_meet
            exact ⟨by rw [hv.out], rfl⟩
    case rest =>
      obtain ⟨rfl, hw⟩ := hcut
      have hw := hw.symm
      subst hw
      cases big with
      | true =>
        have Hv := Lib.hid (show Ix.putE l (n, t) = 3 by rw [Hpe.out, Hok.out, ← Hbig.out]; rfl)
        go_wp2_with fail
        go_ret2
        exact ⟨.slice none 0 0, by rw [Hv.out]; simp, fun h => (by rw [Hv.out] at h; cases h), bseq HB0.out Hb2.out⟩
      | false =>
        have Hv := Lib.hid (show Ix.putE l (n, t) = 0 by rw [Hpe.out, Hok.out, ← Hbig.out]; rfl)
        clear b1
        obtain ⟨u, rfl⟩ : ∃ u, u = w2 := ⟨_, rfl⟩
        have hO2 := Lib.hid (OwnL.made u.heap.size 53 2 RFl u (Nat.le_refl _))
        have hB2 := Lib.hid (below_new u (.cells #[] 53))
        have Cell := Lib.hid (show ∀ (q : Nat) (x : Value) (W : World), (R.flatMap cF)[q]? = some x → Below u.heap.size u W → W.cell? ⟨gr, q, none⟩ = some x from fun q x W hq hW => by
          obtain ⟨fl, h1, h2⟩ := HR.out.below hW
          obtain rfl := rep_flat2 _ _ h2
          have hql := (List.getElem?_eq_some_iff.1 hq).1
          rw [flat2] at hql
          rw [World.ownsRow.cellAt h1 q hql]
          exact hq)
        go_wp2_with fail
        go_loopw [8, 9] (fun ov jv wr => ∃ j g2 c2 : Nat, j ≤ m ∧ jv = .int .i64 (j : Int) ∧ ov = .slice (some ⟨g2, 0, none⟩) j c2 ∧ OwnL u.heap.size 53 2 RFl wr ov (R.take j) ∧ Below u.heap.size u wr) (fun _ jv _ => R.length - (intOf jv).toNat)
        case atStart => exact ⟨0, _, _, Nat.zero_le _, rfl, rfl, hO2.out, hB2.out⟩
        case round =>
          clear hO2 hB2
          obtain ⟨j, g2, c2, hj, rfl, rfl, hO2, hb2⟩ := hrel
          have HO2 := Lib.hid hO2; have Hbj := Lib.hid hb2; have Hj := Lib.hid hj
          clear hO2 hb2
          obtain ⟨bb, hbb⟩ : ∃ bb, bb = decide (j < m) := ⟨_, rfl⟩
          have Hbb := Lib.hid hbb
          clear hbb
          go_upto_region 8 with fail
          go_cut [49] from 36 to 49 (fun v W => v = .bool bb ∧ Below wr.heap.size wr W)
          case first =>
            have b0 := (Bx'.out wr (bseq Hb2.out Hbj.out)).1
            by_cases hjR : j < R.length
            · obtain ⟨x, hx⟩ : ∃ x, R[j]? = some x := ⟨_, List.getElem?_eq_getElem hjR⟩
              have e0 : wr.cell? ⟨gr, j * 2, none⟩ = some (.string ⟨x.1.toArray⟩) := Cell.out (j * 2) _ wr (by
                have := flat_get R j 0 (.string ⟨x.1.toArray⟩) (by
                  obtain ⟨h1, h2⟩ := List.getElem?_eq_some_iff.1 hx
                  rw [List.drop_eq_getElem_cons h1, h2]; rfl)
                simpa using this) Hbj.out
              have hjI : (j : Int) < (R.length : Int) := by omega
              have hbl : Op.bytesLess x.1 n = bb := by
                rw [Hbb.out]
                by_cases hjm : j < m
                · rw [decide_eq_true hjm]; exact Hmlt.out j x hx hjm
                · have he : j = m := by omega
                  subst he
                  rw [decide_eq_false hjm]; exact Hmat.out x hx
              obtain ⟨xn, xt⟩ := x
              simp only at e0 hbl
              clear hx hjR
              go_quiet (fail)
              go_wp2_with fail
              go_meet
              exact ⟨by first | rfl | rw [← hbl] | simp [hbl], below_drewN (Below.refl _ _) _⟩
            · have hb' : bb = false := by rw [Hbb.out]; exact decide_eq_false (by have := Hmle.out; omega)
              have Hb' := Lib.hid hb'
              clear hb'
              go_quiet (fail)
              go_wp2_with fail
              go_meet
              exact ⟨by rw [Hb'.out], below_drewN (Below.refl _ _) _⟩
          case rest =>
            obtain ⟨rfl, hbc⟩ := hcut
            have Hbc := Lib.hid (bseq Hbj.out hbc)
            obtain ⟨fl, hown, hrep⟩ := HO2.out.below hbc
            rw [List.length_take, Nat.min_eq_left (by have := Hmle.out; omega)] at hown
            have Hown := Lib.hid hown; have Hrep := Lib.hid hrep
            have Hm1 := Lib.hid (show j + 1 ≤ maxLen by have := HRl.out; have := Hmle.out; unfold maxLen; omega)
            have Hn1 := Lib.hid (show (j + 1) * 32 ≤ 140737488355328 by have := HRl.out; have := Hmle.out; omega)
            have H0W := Lib.hid Hbc.out.size
            clear hbc hown hrep hj
            cases bb with
            | true =>
              have hjm : j < m := of_decide_eq_true Hbb.out.symm
              obtain ⟨x, hx⟩ : ∃ x, R[j]? = some x := ⟨_, List.getElem?_eq_getElem (by have := Hmle.out; omega)⟩
              have hd : R.drop j = x :: R.drop (j + 1) := by
                obtain ⟨h1, h2⟩ := List.getElem?_eq_some_iff.1 hx
                rw [List.drop_eq_getElem_cons h1, h2]
              have e0 : wc.cell? ⟨gr, j * 2, none⟩ = some (.string ⟨x.1.toArray⟩) := Cell.out (j * 2) _ wc (by
                have := flat_get R j 0 (.string ⟨x.1.toArray⟩) (by rw [hd]; rfl)
                simpa using this) Hbc.out
              have e1 : wc.cell? ⟨gr, j * 2 + 1, none⟩ = some (.string ⟨x.2.toArray⟩) := Cell.out (j * 2 + 1) _ wc (flat_get R j 1 (.string ⟨x.2.toArray⟩) (by rw [hd]; rfl)) Hbc.out
              have Hsn := Lib.hid (show R.take (j + 1) = R.take j ++ [x] by rw [List.take_add_one, hx]; rfl)
              obtain ⟨xn, xt⟩ := x
              simp only at e0 e1
              have hjI : (j : Int) < (R.length : Int) := by have := Hmle.out; omega
              have Hwj := Lib.hid (f2_w1 j (by have := HRl.out; have := Hmle.out; omega))
              have Hjm := Lib.hid hjm
              clear hx hd hjm
              go_wp2_with (at_builtin; go_loud (refine wpList_append1 rfl (.tmp 52) (.tmp 57) 48 rfl u.heap.size 53 i0 (.agg #[.string ⟨#[]⟩, .string ⟨#[]⟩]) 2 32 Tryz.underlying48 Hi.out Hz0.out Hz1.out Hz2.out rfl (by decide) _ _ _ Hown.out rfl [.string ⟨xn.toArray⟩, .string ⟨xt.toArray⟩] rfl (by simp) rfl (by simp [Value.oneCell']) Hm1.out Hn1.out H0W.out ?_); intro v2 w9 own2 g3 at2; obtain ⟨p2, cap2, hv2, _⟩ := own2.form (Nat.succ_pos _); subst hv2)
              go_roundw
              case rel =>
                refine ⟨j + 1, p2, cap2, by have := Hjm.out; omega, by first | rfl | rw [Hwj.out], rfl, ?_, Hbc.out.grown g3 H0W.out (fun q e => (World.ownsRow.lt Hown.out q e).1)⟩
                rw [Hsn.out]
                exact ⟨_, by rw [List.length_append, List.length_take, Nat.min_eq_left (by have := Hmle.out; have := Hjm.out; omega)]; exact own2, RepRow.snoc (R := RFl) (x := (xn, xt)) (vs := [.string ⟨xn.toArray⟩, .string ⟨xt.toArray⟩]) rfl Hrep.out⟩
              case measure => have := Hjm.out; have := Hmle.out; (try rw [Hwj.out]); simp [intOf]; omega
            | false =>
              have he : j = m := by have := of_decide_eq_false Hbb.out.symm; have := Hj.out; omega
              subst he
              have b0 := (Bx'.out wc (bseq Hb2.out Hbc.out)).1
              have b1 := (Bx'.out wc (bseq Hb2.out Hbc.out)).2
              obtain rfl := rep_flat2 _ _ Hrep.out
              have Hcap := Lib.hid (show R.length ≤ cr by
                obtain ⟨fq, h1, _⟩ := HR.out
                rcases h1.2 with ⟨hv, _⟩ | ⟨_, _, _, hv, _, _, hle, _⟩
                · cases hv
                · simp only [Value.slice.injEq] at hv
                  obtain ⟨_, _, rfl⟩ := hv
                  exact hle)
              go_upto_region 13 with (at_builtin; go_loud (refine wpList_append1 rfl (.tmp 61) (.tmp 63) 48 rfl u.heap.size 53 i0 (.agg #[.string ⟨#[]⟩, .string ⟨#[]⟩]) 2 32 Tryz.underlying48 Hi.out Hz0.out Hz1.out Hz2.out rfl (by decide) _ _ _ Hown.out rfl [.string ⟨n.toArray⟩, .string ⟨t.toArray⟩] rfl (by simp) rfl (by simp [Value.oneCell']) Hm1.out Hn1.out H0W.out ?_); intro v2 w9 own2 g3 at2; obtain ⟨p2, cap2, hv2, _⟩ := own2.form (Nat.succ_pos _); subst hv2)
              clear b0 b1
              have hb9 := Hbc.out.grown g3 H0W.out (fun q e => (World.ownsRow.lt Hown.out q e).1)
              have HB9 := Lib.hid hb9
              have hjl0 : decide ((j : Int) < 0) = false := decide_eq_false (by omega)
              have hjR2 : (j : Int) ≤ (R.length : Int) := by have := Hmle.out; omega
              have hRc : (R.length : Int) ≤ (cr : Int) := by have := Hcap.out; omega
              by_cases hcj : cr = j
              · have hjl : R.drop j = [] := List.drop_of_length_le (by have := Hcap.out; have := Hmle.out; omega)
                obtain ⟨v3, w10, hrun, own3, g4, _, _⟩ := run_append_own_at (P := Tryz.prog) w9 u.heap.size 48 48 53 i0 (.agg #[.string ⟨#[]⟩, .string ⟨#[]⟩]) 2 32 Tryz.underlying48 Hi.out Hz0.out Hz1.out Hz2.out rfl (by decide) _ _ _ own2 ⟨gr, 0, none⟩ (R.length - j) (cr - j) ((R.drop j).flatMap cF) (by rw [flat2, List.length_drop]) (fun q x hq => by rw [hjl] at hq; simp at hq) (fun z hz => by rw [hjl] at hz; simp at hz) (by have := HRl.out; have := Hmle.out; unfold maxLen; omega) (by have := HRl.out; have := Hmle.out; omega) HB9.out.size
                obtain ⟨p3, c3, hv3, _⟩ := own3.form (by omega)
                subst hv3
                have Hrun := Lib.hid hrun; have Own3 := Lib.hid own3; have HB10 := Lib.hid (hb9.grown g4 hb9.size (fun q e => (World.ownsRow.lt own2 q e).1))
                have Hcj := Lib.hid hcj
                clear hb9 hrun own3 g4 own2 g3 at2 hjl
                go_wp2_with (at_builtin; refine wpList_append_run rfl (.tmp 65) (.tmp 68) 48 rfl rfl rfl Hrun.out ?_)
                go_ret2
                refine ⟨.slice (some ⟨p3, 0, none⟩) (j + 1 + (R.length - j)) c3, by rw [Hv.out]; simp, fun _ => ?_, (bseq HB0.out Hb2.out).trans (HB10.out.mono (bseq HB0.out Hb2.out).size)⟩
                rw [Hpl.out]
                have hh : (R.take j ++ [(n, t)] ++ R.drop j).length = j + 1 + (R.length - j) := by
                  rw [List.length_append, List.length_append, List.length_take, List.length_drop, Nat.min_eq_left Hmle.out]; rfl
                have h1 := Own3.out
                have h2 : (R.take j).flatMap cF ++ [Value.string ⟨n.toArray⟩, Value.string ⟨t.toArray⟩] ++ (R.drop j).flatMap cF = (R.take j ++ [(n, t)] ++ R.drop j).flatMap cF := by
                  rw [List.flatMap_append, List.flatMap_append]; rfl
                rw [h2] at h1
                exact OwnL.lower ⟨_, by rw [hh]; exact h1, row_flat2 _⟩ (bseq HB0.out Hb2.out).size
              · obtain ⟨v3, w10, hrun, own3, g4, _, _⟩ := run_append_own_at (P := Tryz.prog) w9 u.heap.size 48 48 53 i0 (.agg #[.string ⟨#[]⟩, .string ⟨#[]⟩]) 2 32 Tryz.underlying48 Hi.out Hz0.out Hz1.out Hz2.out rfl (by decide) _ _ _ own2 ⟨gr, j * 2, none⟩ (R.length - j) (cr - j) ((R.drop j).flatMap cF) (by rw [flat2, List.length_drop]) (fun q x hq => by
                    have h1 := Cell.out (j * 2 + q) x w9 (flat_get R j q x hq) HB9.out
                    rw [addG_cell]
                    cases q with
                    | zero => exact h1
                    | succ q => exact h1) (fun z hz => by
                    obtain ⟨y, _, hy⟩ := List.mem_flatMap.1 hz
                    unfold cF at hy
                    simp only [List.mem_cons, List.not_mem_nil, or_false] at hy
                    rcases hy with rfl | rfl <;> rfl) (by have := HRl.out; have := Hmle.out; unfold maxLen; omega) (by have := HRl.out; have := Hmle.out; omega) HB9.out.size
                obtain ⟨p3, c3, hv3, _⟩ := own3.form (by omega)
                subst hv3
                have Hrun := Lib.hid hrun; have Own3 := Lib.hid own3; have HB10 := Lib.hid (hb9.grown g4 hb9.size (fun q e => (World.ownsRow.lt own2 q e).1))
                clear hb9 hrun own3 g4 own2 g3 at2
                go_wp2_with (at_builtin; refine wpList_append_run rfl (.tmp 65) (.tmp 68) 48 rfl rfl rfl Hrun.out ?_)
                go_ret2
                refine ⟨.slice (some ⟨p3, 0, none⟩) (j + 1 + (R.length - j)) c3, by rw [Hv.out]; simp, fun _ => ?_, (bseq HB0.out Hb2.out).trans (HB10.out.mono (bseq HB0.out Hb2.out).size)⟩
                rw [Hpl.out]
                have hh : (R.take j ++ [(n, t)] ++ R.drop j).length = j + 1 + (R.length - j) := by
                  rw [List.length_append, List.length_append, List.length_take, List.length_drop, Nat.min_eq_left Hmle.out]; rfl
                have h1 := Own3.out
                have h2 : (R.take j).flatMap cF ++ [Value.string ⟨n.toArray⟩, Value.string ⟨t.toArray⟩] ++ (R.drop j).flatMap cF = (R.take j ++ [(n, t)] ++ R.drop j).flatMap cF := by
                  rw [List.flatMap_append, List.flatMap_append]; rfl
                rw [h2] at h1
                exact OwnL.lower ⟨_, by rw [hh]; exact h1, row_flat2 _⟩ (bseq HB0.out Hb2.out).size
end
end Go.Proofs.YthoblbdkmlggbaaGreatDoor
